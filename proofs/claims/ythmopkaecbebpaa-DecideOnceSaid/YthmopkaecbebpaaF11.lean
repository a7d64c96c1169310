/- Walks of layer 11 (pred): all kinds; no condition. -/
import Derived.Test.YthmopkaecbebpaaE11
namespace Go.Proofs.Ythmopkaecbebpaa
open Go.RowKit Go.Peri
namespace C11
def fv (n : Nat) : Value := .func (.func n) #[] #[]
set_option maxRecDepth 100000 in
theorem when_any (n : Nat) (e : Int) (W : World) : Calls Try.prog 177 #[.func (.func n) #[] #[], .int .i64 e] W fun r w' =>
    r = .returned (.func (.func 190) #[] #[.pointer (some ⟨W.heap.size, 0, none⟩), .pointer (some ⟨W.heap.size + 1, 0, none⟩)]) ∧ Below W.heap.size W w' ∧ Blk w' W.heap.size #[.func (.func n) #[] #[]] 99 ∧ Blk w' (W.heap.size + 1) #[.int .i64 e] 36 := by
  go_enter Try.func177, Try.ntmps177
  go_wp2_with fail
  go_ret
  refine ⟨by simp, by go_grown, (Blk.new W _ _).alloc _, Blk.new' _ _ _ (by simp)⟩
set_option maxRecDepth 100000 in
theorem whenName_any (s : ByteArray) (e : Int) (b : Bool) (p q : Nat) (W : World) (hs : s.size ≤ 1000000000000000) (hp : Blk W p #[.func (.func 178) #[] #[]] 99) (hq : Blk W q #[.int .i64 e] 36) (hr : Hd.nameOk s = b) :
    Calls Try.prog 190 #[.string s, .pointer (some ⟨p, 0, none⟩), .pointer (some ⟨q, 0, none⟩)] W fun r w' => r = .returned (.int .i64 (if b = true then 0 else e)) ∧ Below W.heap.size W w' := by
  have c1 : W.cell? ⟨p, 0, none⟩ = some (.func (.func 178) #[] #[]) := hp.cell 0
  have c2 : W.cell? ⟨q, 0, none⟩ = some (.int .i64 e) := hq.cell 0
  have l1 := hp.lt
  have l2 := hq.lt
  have HN := hid (fun w => C04.name_any s w hs)
  rw [hr] at HN
  clear hp hq hr
  cases b
  · go_enter Try.func190, Try.ntmps190
    go_wp2_with fail
    refine (HN.out _).mono ?_
    rintro e w' ⟨rfl, rfl⟩
    go_wp2_with fail
    go_ret
    exact ⟨rfl, by go_grown⟩
  · go_enter Try.func190, Try.ntmps190
    go_wp2_with fail
    refine (HN.out _).mono ?_
    rintro e w' ⟨rfl, rfl⟩
    go_wp2_with fail
    go_ret
    exact ⟨rfl, by go_grown⟩
set_option maxRecDepth 100000 in
theorem whenValue_any (s : ByteArray) (e : Int) (b : Bool) (p q : Nat) (W : World) (hs : s.size ≤ 1000000000000000) (hp : Blk W p #[.func (.func 183) #[] #[]] 99) (hq : Blk W q #[.int .i64 e] 36) (hr : Hd.valueOk s = b) :
    Calls Try.prog 190 #[.string s, .pointer (some ⟨p, 0, none⟩), .pointer (some ⟨q, 0, none⟩)] W fun r w' => r = .returned (.int .i64 (if b = true then 0 else e)) ∧ Below W.heap.size W w' := by
  have c1 : W.cell? ⟨p, 0, none⟩ = some (.func (.func 183) #[] #[]) := hp.cell 0
  have c2 : W.cell? ⟨q, 0, none⟩ = some (.int .i64 e) := hq.cell 0
  have l1 := hp.lt
  have l2 := hq.lt
  have HN := hid (fun w => C04.value_any s w hs)
  rw [hr] at HN
  clear hp hq hr
  cases b
  · go_enter Try.func190, Try.ntmps190
    go_wp2_with fail
    refine (HN.out _).mono ?_
    rintro e w' ⟨rfl, rfl⟩
    go_wp2_with fail
    go_ret
    exact ⟨rfl, by go_grown⟩
  · go_enter Try.func190, Try.ntmps190
    go_wp2_with fail
    refine (HN.out _).mono ?_
    rintro e w' ⟨rfl, rfl⟩
    go_wp2_with fail
    go_ret
    exact ⟨rfl, by go_grown⟩
def wh (a b : Nat) : Value := .func (.func 190) #[] #[.pointer (some ⟨a, 0, none⟩), .pointer (some ⟨b, 0, none⟩)]
def kcells (a b c d : Nat) : Array Value := #[.bool false, .bool true, .func (.func 173) #[] #[], .func (.func 176) #[] #[],
  .bool false, .bool true, .func (.func 190) #[] #[.pointer (some ⟨a, 0, none⟩), .pointer (some ⟨b, 0, none⟩)], .func (.func 179) #[] #[],
  .bool false, .bool true, .func (.func 175) #[] #[], .func (.func 180) #[] #[],
  .bool false, .bool true, .func (.func 175) #[] #[], .func (.func 181) #[] #[],
  .bool true, .bool true, .func (.func 190) #[] #[.pointer (some ⟨c, 0, none⟩), .pointer (some ⟨d, 0, none⟩)], .func (.func 184) #[] #[],
  .bool true, .bool false, .func (.func 187) #[] #[], .func (.func 188) #[] #[]]
structure KindsAt (w : World) (a b c d : Nat) : Prop where
  a : Blk w a #[.func (.func 178) #[] #[]] 99
  b : Blk w b #[.int .i64 7] 36
  c : Blk w c #[.func (.func 183) #[] #[]] 99
  d : Blk w d #[.int .i64 15] 36
def KindsQ (W : World) (e : Ending) (w' : World) : Prop :=
  ∃ a b c d g, e = .returned (.slice (some ⟨g, 0, none⟩) 6 6) ∧ Below W.heap.size W w' ∧ Hid (KindsAt w' a b c d) ∧ Hid (Blk w' g (kcells a b c d) 251)
set_option maxRecDepth 100000 in
set_option maxHeartbeats 1000000 in
theorem kinds_any (W : World) : Calls Try.prog 172 #[] W (KindsQ W) := by
  have HW := hid when_any
  go_enter Try.func172, Try.ntmps172
  go_wp2_with fail
  refine (HW.out _ _ _).mono ?_
  rintro e w1 ⟨rfl, hb1, hp1, hq1⟩
  have HB1 := hid hb1
  have HP1 := hid hp1
  have HQ1 := hid hq1
  clear hb1 hp1 hq1
  go_wp2_with fail
  refine (HW.out _ _ _).mono ?_
  rintro e w2 ⟨rfl, hb2, hp2, hq2⟩
  have HB2 := hid (HB1.out.trans (hb2.mono HB1.out.size))
  have HP2 := hid (HP1.out.later hb2)
  have HQ2 := hid (HQ1.out.later hb2)
  have HR2 := hid hp2
  have HS2 := hid hq2
  clear hb2 hp2 hq2
  go_wp2_with fail
  go_ret
  unfold KindsQ
  exact ⟨_, _, _, _, _, rfl, HB2.out.trans (by have := HB2.out.size; go_grown; all_goals omega), hid ⟨HP2.out.alloc _, HQ2.out.alloc _, HR2.out.alloc _, HS2.out.alloc _⟩, hid (Blk.new _ _ _)⟩
end C11
end Go.Proofs.Ythmopkaecbebpaa
