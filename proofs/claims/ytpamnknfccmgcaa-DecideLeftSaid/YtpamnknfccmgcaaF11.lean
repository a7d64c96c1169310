/- Walks of layer 11 (pred): all kinds; no condition. -/
import Derived.Test.YtpamnknfccmgcaaE11
namespace Go.Proofs.Ytpamnknfccmgcaa
open Go.RowKit Go.Peri
namespace C11
def fv (n : Nat) : Value := .func (.func n) #[] #[]
set_option maxRecDepth 100000 in
theorem when_any (n : Nat) (e : Int) (W : World) : Calls Try.prog 219 #[.func (.func n) #[] #[], .int .i64 e] W fun r w' =>
    r = .returned (.func (.func 234) #[] #[.pointer (some ⟨W.heap.size, 0, none⟩), .pointer (some ⟨W.heap.size + 1, 0, none⟩)]) ∧ Below W.heap.size W w' ∧ Blk w' W.heap.size #[.func (.func n) #[] #[]] 25 ∧ Blk w' (W.heap.size + 1) #[.int .i64 e] 26 := by
  go_enter Try.func219, Try.ntmps219
  go_wp2_with fail
  go_ret
  refine ⟨by simp, by go_grown, (Blk.new W _ _).alloc _, Blk.new' _ _ _ (by simp)⟩
set_option maxRecDepth 100000 in
theorem whenName_any (s : ByteArray) (e : Int) (b : Bool) (p q : Nat) (W : World) (hs : s.size ≤ 1000000000000000) (hp : Blk W p #[.func (.func 29) #[] #[]] 25) (hq : Blk W q #[.int .i64 e] 26) (hr : Hd.nameOk s = b) :
    Calls Try.prog 234 #[.string s, .pointer (some ⟨p, 0, none⟩), .pointer (some ⟨q, 0, none⟩)] W fun r w' => r = .returned (.int .i64 (if b = true then 0 else e)) ∧ Below W.heap.size W w' := by
  have c1 : W.cell? ⟨p, 0, none⟩ = some (.func (.func 29) #[] #[]) := hp.cell 0
  have c2 : W.cell? ⟨q, 0, none⟩ = some (.int .i64 e) := hq.cell 0
  have l1 := hp.lt
  have l2 := hq.lt
  have HN := hid (fun w => C04.name_any s w hs)
  rw [hr] at HN
  clear hp hq hr
  cases b
  · go_enter Try.func234, Try.ntmps234
    go_wp2_with fail
    refine (HN.out _).mono ?_
    rintro e w' ⟨rfl, rfl⟩
    go_wp2_with fail
    go_ret
    exact ⟨rfl, by go_grown⟩
  · go_enter Try.func234, Try.ntmps234
    go_wp2_with fail
    refine (HN.out _).mono ?_
    rintro e w' ⟨rfl, rfl⟩
    go_wp2_with fail
    go_ret
    exact ⟨rfl, by go_grown⟩
set_option maxRecDepth 100000 in
theorem whenValue_any (s : ByteArray) (e : Int) (b : Bool) (p q : Nat) (W : World) (hs : s.size ≤ 1000000000000000) (hp : Blk W p #[.func (.func 31) #[] #[]] 25) (hq : Blk W q #[.int .i64 e] 26) (hr : Hd.valueOk s = b) :
    Calls Try.prog 234 #[.string s, .pointer (some ⟨p, 0, none⟩), .pointer (some ⟨q, 0, none⟩)] W fun r w' => r = .returned (.int .i64 (if b = true then 0 else e)) ∧ Below W.heap.size W w' := by
  have c1 : W.cell? ⟨p, 0, none⟩ = some (.func (.func 31) #[] #[]) := hp.cell 0
  have c2 : W.cell? ⟨q, 0, none⟩ = some (.int .i64 e) := hq.cell 0
  have l1 := hp.lt
  have l2 := hq.lt
  have HN := hid (fun w => C04.value_any s w hs)
  rw [hr] at HN
  clear hp hq hr
  cases b
  · go_enter Try.func234, Try.ntmps234
    go_wp2_with fail
    refine (HN.out _).mono ?_
    rintro e w' ⟨rfl, rfl⟩
    go_wp2_with fail
    go_ret
    exact ⟨rfl, by go_grown⟩
  · go_enter Try.func234, Try.ntmps234
    go_wp2_with fail
    refine (HN.out _).mono ?_
    rintro e w' ⟨rfl, rfl⟩
    go_wp2_with fail
    go_ret
    exact ⟨rfl, by go_grown⟩
def wh (a b : Nat) : Value := .func (.func 234) #[] #[.pointer (some ⟨a, 0, none⟩), .pointer (some ⟨b, 0, none⟩)]
def kcells (a b c d : Nat) : Array Value := #[.bool false, .bool true, .func (.func 215) #[] #[], .func (.func 218) #[] #[],
  .bool false, .bool true, .func (.func 234) #[] #[.pointer (some ⟨a, 0, none⟩), .pointer (some ⟨b, 0, none⟩)], .func (.func 220) #[] #[],
  .bool false, .bool true, .func (.func 217) #[] #[], .func (.func 221) #[] #[],
  .bool false, .bool true, .func (.func 217) #[] #[], .func (.func 222) #[] #[],
  .bool true, .bool true, .func (.func 234) #[] #[.pointer (some ⟨c, 0, none⟩), .pointer (some ⟨d, 0, none⟩)], .func (.func 224) #[] #[],
  .bool true, .bool false, .func (.func 225) #[] #[], .func (.func 226) #[] #[]]
structure KindsAt (w : World) (a b c d : Nat) : Prop where
  a : Blk w a #[.func (.func 29) #[] #[]] 25
  b : Blk w b #[.int .i64 7] 26
  c : Blk w c #[.func (.func 31) #[] #[]] 25
  d : Blk w d #[.int .i64 15] 26
def KindsQ (W : World) (e : Ending) (w' : World) : Prop :=
  ∃ a b c d g, e = .returned (.slice (some ⟨g, 0, none⟩) 6 6) ∧ Below W.heap.size W w' ∧ Hid (KindsAt w' a b c d) ∧ Hid (Blk w' g (kcells a b c d) 154)
set_option maxRecDepth 100000 in
set_option maxHeartbeats 1000000 in
theorem kinds_any (W : World) : Calls Try.prog 196 #[] W (KindsQ W) := by
  have HW := hid when_any
  go_enter Try.func196, Try.ntmps196
  go_wp2_with fail
  refine (HW.out _ _ _).mono ?_
  rintro e w1 ⟨rfl, hb1, hp1, hq1⟩
  have HB1 := hid hb1
  have HP1 := hid hp1
  have HQ1 := hid hq1
  clear hb1 hp1 hq1
  go_wp2_with fail
  refine (HW.out _ _ _).mono ?_
  rintro e w2 ⟨rfl, hb2, hp2, hq2⟩
  have HB2 := hid (HB1.out.trans (hb2.mono HB1.out.size))
  have HP2 := hid (HP1.out.later hb2)
  have HQ2 := hid (HQ1.out.later hb2)
  have HR2 := hid hp2
  have HS2 := hid hq2
  clear hb2 hp2 hq2
  go_wp2_with fail
  go_ret
  unfold KindsQ
  exact ⟨_, _, _, _, _, rfl, HB2.out.trans (by have := HB2.out.size; go_grown; all_goals omega), hid ⟨HP2.out.alloc _, HQ2.out.alloc _, HR2.out.alloc _, HS2.out.alloc _⟩, hid (Blk.new _ _ _)⟩
end C11
end Go.Proofs.Ytpamnknfccmgcaa
