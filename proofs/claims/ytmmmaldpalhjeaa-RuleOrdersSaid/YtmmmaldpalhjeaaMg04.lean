/- Walks of layer 11 (pred): how a request is matched by host, path, beginning; no condition. Walks of layer 11 (pred): whether a request has a header; no condition. Walks of layer 11 (pred): whether a request has a header of just one value; no condition. Walks of layer 11 (pred): how a request is matched by a predicate of any kind; no condition. Walks of layer 11 (pred): how a request is matched by the document; no condition. Spans as plain data, and what cells of them read as. No program in sight. What arguments of spans, open spans and small arrays read as. No program in sight. Predicates and requests as plain data, and what arguments read as. No program in sight. Walks of layer 11 (pred): whether a request matches all of some, in the program and by the document; no condition. -/
import Derived.Test.YtmmmaldpalhjeaaMg03
import Derived.Deep.RegionHeld3
import Derived.Test.YtmmmaldpalhjeaaMg01
namespace Go.Proofs.Ytmmmaldpalhjeaa
open Go.RowKit Go.Peri
namespace C11
set_option maxRecDepth 100000 in
theorem mHost (k : Int) (n v m h p b : ByteArray) (hd : Value) (r : Bool) (W : World) (a : Option Addr) (l c : Nat) (ha : hd = .slice a l c) (hr : decide (h = v) = r) :
    Calls Try.prog 225 #[.agg #[.int .i64 k, .string n, .string v], .agg #[.string m, .string h, .string p, hd, .string b]] W fun e w' => e = .returned (.bool r) ∧ Below W.heap.size W w' := by
  subst ha
  have k1 := (strEq_of hr).eq
  have k2 := (strEq_of hr).ne
  clear hr
  go_enter Try.func225, Try.ntmps225
  go_wp2_with fail
  go_ret
  exact ⟨rfl, by go_grown⟩
set_option maxRecDepth 100000 in
theorem mExact (k : Int) (n v m h p b : ByteArray) (hd : Value) (r : Bool) (W : World) (a : Option Addr) (l c : Nat) (ha : hd = .slice a l c) (hr : decide (p = v) = r) :
    Calls Try.prog 226 #[.agg #[.int .i64 k, .string n, .string v], .agg #[.string m, .string h, .string p, hd, .string b]] W fun e w' => e = .returned (.bool r) ∧ Below W.heap.size W w' := by
  subst ha
  have k1 := (strEq_of hr).eq
  have k2 := (strEq_of hr).ne
  clear hr
  go_enter Try.func226, Try.ntmps226
  go_wp2_with fail
  go_ret
  exact ⟨rfl, by go_grown⟩
set_option maxRecDepth 100000 in
theorem mPrefix (k : Int) (n v m h p b : ByteArray) (hd : Value) (r : Bool) (W : World) (a : Option Addr) (l c : Nat) (ha : hd = .slice a l c) (hr : prefR p v = r) :
    Calls Try.prog 227 #[.agg #[.int .i64 k, .string n, .string v], .agg #[.string m, .string h, .string p, hd, .string b]] W fun e w' => e = .returned (.bool r) ∧ Below W.heap.size W w' := by
  subst ha
  have HP := hid (fun w => hasPrefix_any p v r w hr)
  clear hr
  go_enter Try.func227, Try.ntmps227
  go_wp2_with fail
  refine (HP.out _).mono ?_
  rintro e w' ⟨rfl, rfl⟩
  go_wp2_with fail
  go_ret
  exact ⟨rfl, by go_grown⟩
end C11
end Go.Proofs.Ytmmmaldpalhjeaa
namespace Go.Proofs.Ytmmmaldpalhjeaa
open Go.RowKit Go.Peri
namespace C11
set_option maxRecDepth 100000 in
theorem mHas {pp : Nat → Prop} (k : Int) (n v m h p b : ByteArray) (hd : Value) (l : List Hd) (r : Bool) (W : World) (hl : RowsOf pp Hd.enc 2 W hd l) (hp : ∀ b, pp b → b < W.heap.size) (hn : l.length ≤ 1000000) (hr : decide (0 < (Hd.allR l n).length) = r) :
    Calls Try.prog 233 #[.agg #[.int .i64 k, .string n, .string v], .agg #[.string m, .string h, .string p, hd, .string b]] W fun e w' => e = .returned (.bool r) ∧ Below W.heap.size W w' := by
  have HA := hid (fun w' (hw : Below W.heap.size W w') => C04.all_any hd l n w' (hl.below hw hp) (fun b hb => Nat.lt_of_lt_of_le (hp b hb) hw.size) (by omega))
  obtain ⟨a, cap, rfl⟩ := hl.form
  have HB0 : Hid (Below W.heap.size W ((W.alloc (.cells #[.int .i64 k, .string n, .string v] 146)).alloc (.cells #[.string m, .string h, .string p, .slice a l.length cap, .string b] 67))) := by show Below _ _ _; go_grown
  have HR := hid hr
  clear hl hp hr
  go_enter Try.func233, Try.ntmps233
  go_wp2_with fail
  refine (HA.out _ HB0.out).mono ?_
  rintro e w1 ⟨a1, c1, rfl, hb1, hrow⟩
  have HB1 := hid (HB0.out.trans (hb1.mono HB0.out.size))
  clear hb1 hrow
  go_wp2_with fail
  go_ret
  exact ⟨by rw [← HR.out]; rfl, HB1.out⟩
end C11
end Go.Proofs.Ytmmmaldpalhjeaa
namespace Go.Proofs.Ytmmmaldpalhjeaa
open Go.RowKit Go.Peri
namespace C11
set_option maxRecDepth 100000 in
set_option maxHeartbeats 1000000 in
theorem mHead {pp : Nat → Prop} (k : Int) (n v m h p b : ByteArray) (hd : Value) (l : List Hd) (r : Bool) (W : World) (hl : RowsOf pp Hd.enc 2 W hd l) (hp : ∀ b, pp b → b < W.heap.size) (hn : l.length ≤ 1000000) (hr : (Hd.allR l n).any (fun x => decide (x = v)) = r) :
    Calls Try.prog 230 #[.agg #[.int .i64 k, .string n, .string v], .agg #[.string m, .string h, .string p, hd, .string b]] W fun e w' => e = .returned (.bool r) ∧ Below W.heap.size W w' := by
  have HA := hid (fun w' (hw : Below W.heap.size W w') => C04.all_any hd l n w' (hl.below hw hp) (fun b hb => Nat.lt_of_lt_of_le (hp b hb) hw.size) (by omega))
  have hlen : (Hd.allR l n).length ≤ 1000000000000 := by
    unfold Hd.allR; rw [List.length_map]; exact Nat.le_trans (List.length_filter_le _ _) (by omega)
  obtain ⟨a, cap, rfl⟩ := hl.form
  have HZ := hid ((Blk.new W #[.int .i64 k, .string n, .string v] 146).alloc (.cells #[.string m, .string h, .string p, .slice a l.length cap, .string b] 67))
  have HY := hid (Blk.new' (W.alloc (.cells #[.int .i64 k, .string n, .string v] 146)) #[.string m, .string h, .string p, .slice a l.length cap, .string b] 67 (n := W.heap.size + 1) (by simp))
  have HB0 : Hid (Below W.heap.size W ((W.alloc (.cells #[.int .i64 k, .string n, .string v] 146)).alloc (.cells #[.string m, .string h, .string p, .slice a l.length cap, .string b] 67))) := by show Below _ _ _; go_grown
  have KEEP : Hid (∀ w', Below ((W.alloc (.cells #[.int .i64 k, .string n, .string v] 146)).alloc (.cells #[.string m, .string h, .string p, .slice a l.length cap, .string b] 67)).heap.size ((W.alloc (.cells #[.int .i64 k, .string n, .string v] 146)).alloc (.cells #[.string m, .string h, .string p, .slice a l.length cap, .string b] 67)) w' →
      w'.cell? ⟨W.heap.size, 1, none⟩ = some (.string n) ∧ w'.cell? ⟨W.heap.size, 2, none⟩ = some (.string v) ∧ w'.cell? ⟨W.heap.size + 1, 3, none⟩ = some (.slice a l.length cap)) :=
    fun w' hw => ⟨(HZ.out.later hw).cell 1, (HZ.out.later hw).cell 2, (HY.out.later hw).cell 3⟩
  have HR := hid hr
  have HLEN := hid hlen
  clear hl hp hr HZ HY hlen
  go_enter Try.func230, Try.ntmps230
  go_wp2_with fail
  go_region_held3 (fun w' => w'.cell? ⟨W.heap.size, 1, none⟩ = some (.string n) ∧ w'.cell? ⟨W.heap.size, 2, none⟩ = some (.string v) ∧ w'.cell? ⟨W.heap.size + 1, 3, none⟩ = some (.slice a l.length cap))
    (first
      | exact KEEP.out _ hb2
      | exact KEEP.out _ (Below.refl _ _).drew
      | go_keep)
    ((first
      | (go_at_call 231; (with_reducible refine (HA.out _ HB0.out.drew).mono ?_); rintro e w1 ⟨a1, c1, rfl, hb1, hrow⟩; have hb2 := below_drew hb1)
      | (go_at_call 100; refine (C04.contains_any _ _ v r w1 (RowsOf.of_owns sEnc_length hrow.out) HLEN.out HR.out).mono ?_; rintro e w' ⟨rfl, rfl⟩)))
  all_goals
    have HB1 := hid (HB0.out.trans (hb2.mono HB0.out.size))
    clear hb1 hrow hb2
    go_wp2_with fail
    go_ret
    exact ⟨rfl, HB1.out⟩
/-- Whether a request matches. -/
def matchR (k : Int) (n v m h p : ByteArray) (l : List Hd) : Bool :=
  if k = 1 then decide (m = v) else if k = 2 then decide (h = v) else if k = 3 then decide (p = v) else if k = 4 then prefR p v
  else if k = 5 then (Hd.allR l n).any (fun x => decide (x = v)) else if k = 6 then decide (0 < (Hd.allR l n).length) else false
end C11
end Go.Proofs.Ytmmmaldpalhjeaa
namespace Go.Proofs.Ytmmmaldpalhjeaa
open Go.RowKit Go.Peri
namespace C11
set_option maxRecDepth 100000 in
set_option maxHeartbeats 1000000 in
theorem pmatch1 {pp : Nat → Prop} (n v m h p b : ByteArray) (l : List Hd) (a0 : Option Addr) (cap : Nat) (r : Bool) (W : World) (_hl : RowsOf pp Hd.enc 2 W (.slice a0 l.length cap) l) (_hp : ∀ b, pp b → b < W.heap.size) (_hn : l.length ≤ 1000000) (hr : decide (m = v) = r) :
    Calls Try.prog 158 #[.agg #[.int .i64 1, .string n, .string v], .agg #[.string m, .string h, .string p, .slice a0 l.length cap, .string b]] W fun e w' => e = .returned (.bool r) ∧ Below W.heap.size W w' := by
  have HO : Hid (∀ w, Calls Try.prog 152 #[.int .i64 1] w fun e w' => ∃ a b c d : Nat, e = .returned (.tuple #[.agg #[.bool false, .bool true, .func (.func 220) #[] #[], .func (.func 223) #[] #[]], .bool true]) ∧ Below w.heap.size w w' ∧ Hid (KindsAt w' a b c d)) := hid (fun w => of1 w)
  have HC := hid (fun w => mMethod 1 n v m h p b (.slice a0 l.length cap) r w a0 l.length cap rfl hr)
  have HZ := hid ((Blk.new W #[.int .i64 1, .string n, .string v] 146).alloc (.cells #[.string m, .string h, .string p, .slice a0 l.length cap, .string b] 67))
  have HY := hid (Blk.new' (W.alloc (.cells #[.int .i64 1, .string n, .string v] 146)) #[.string m, .string h, .string p, .slice a0 l.length cap, .string b] 67 (n := W.heap.size + 1) (by simp))
  have HB0 : Hid (Below W.heap.size W ((W.alloc (.cells #[.int .i64 1, .string n, .string v] 146)).alloc (.cells #[.string m, .string h, .string p, .slice a0 l.length cap, .string b] 67))) := by show Below _ _ _; go_grown
  clear _hl _hp hr
  go_enter Try.func158, Try.ntmps158
  go_wp2_with fail
  refine (HO.out _).mono ?_
  rintro e w1 ⟨a, b', c, d, rfl, hb1, hka⟩
  have hk := HZ.out.later hb1
  have hy := HY.out.later hb1
  have d0 : w1.cell? ⟨W.heap.size, 0, none⟩ = some (.int .i64 1) := hk.cell 0
  have d1 : w1.cell? ⟨W.heap.size, 1, none⟩ = some (.string n) := hk.cell 1
  have d2 : w1.cell? ⟨W.heap.size, 2, none⟩ = some (.string v) := hk.cell 2
  have y0 : w1.cell? ⟨W.heap.size + 1, 0, none⟩ = some (.string m) := hy.cell 0
  have y1 : w1.cell? ⟨W.heap.size + 1, 1, none⟩ = some (.string h) := hy.cell 1
  have y2 : w1.cell? ⟨W.heap.size + 1, 2, none⟩ = some (.string p) := hy.cell 2
  have y3 : w1.cell? ⟨W.heap.size + 1, 3, none⟩ = some (.slice a0 l.length cap) := hy.cell 3
  have y4 : w1.cell? ⟨W.heap.size + 1, 4, none⟩ = some (.string b) := hy.cell 4
  have hlt := hk.lt
  have hlt2 := hy.lt
  have HB1 := hid (HB0.out.trans (hb1.mono (by simp; try omega)))
  have HN1 : Hid (Below W.heap.size W (w1.alloc (.cells #[.bool false, .bool true, .func (.func 220) #[] #[], .func (.func 223) #[] #[]] 204))) := hid (HB1.out.trans (by have := HB1.out.size; go_grown; all_goals omega))
  clear hb1 hk hka hy
  go_wp2_with fail
  refine (HC.out _).mono ?_
  rintro e w2 ⟨rfl, hb2⟩
  have HB2 := hid (HN1.out.trans (hb2.mono HN1.out.size))
  clear hb2
  go_wp2_with fail
  go_ret
  exact ⟨rfl, HB2.out⟩
set_option maxRecDepth 100000 in
set_option maxHeartbeats 1000000 in
theorem pmatch2 {pp : Nat → Prop} (n v m h p b : ByteArray) (l : List Hd) (a0 : Option Addr) (cap : Nat) (r : Bool) (W : World) (_hl : RowsOf pp Hd.enc 2 W (.slice a0 l.length cap) l) (_hp : ∀ b, pp b → b < W.heap.size) (_hn : l.length ≤ 1000000) (hr : decide (h = v) = r) :
    Calls Try.prog 158 #[.agg #[.int .i64 2, .string n, .string v], .agg #[.string m, .string h, .string p, .slice a0 l.length cap, .string b]] W fun e w' => e = .returned (.bool r) ∧ Below W.heap.size W w' := by
  have HO : Hid (∀ w, Calls Try.prog 152 #[.int .i64 2] w fun e w' => ∃ a b c d : Nat, e = .returned (.tuple #[.agg #[.bool false, .bool true, .func (.func 245) #[] #[.pointer (some ⟨a, 0, none⟩), .pointer (some ⟨b, 0, none⟩)], .func (.func 225) #[] #[]], .bool true]) ∧ Below w.heap.size w w' ∧ Hid (KindsAt w' a b c d)) := hid (fun w => of2 w)
  have HC := hid (fun w => mHost 2 n v m h p b (.slice a0 l.length cap) r w a0 l.length cap rfl hr)
  have HZ := hid ((Blk.new W #[.int .i64 2, .string n, .string v] 146).alloc (.cells #[.string m, .string h, .string p, .slice a0 l.length cap, .string b] 67))
  have HY := hid (Blk.new' (W.alloc (.cells #[.int .i64 2, .string n, .string v] 146)) #[.string m, .string h, .string p, .slice a0 l.length cap, .string b] 67 (n := W.heap.size + 1) (by simp))
  have HB0 : Hid (Below W.heap.size W ((W.alloc (.cells #[.int .i64 2, .string n, .string v] 146)).alloc (.cells #[.string m, .string h, .string p, .slice a0 l.length cap, .string b] 67))) := by show Below _ _ _; go_grown
  clear _hl _hp hr
  go_enter Try.func158, Try.ntmps158
  go_wp2_with fail
  refine (HO.out _).mono ?_
  rintro e w1 ⟨a, b', c, d, rfl, hb1, hka⟩
  have hk := HZ.out.later hb1
  have hy := HY.out.later hb1
  have d0 : w1.cell? ⟨W.heap.size, 0, none⟩ = some (.int .i64 2) := hk.cell 0
  have d1 : w1.cell? ⟨W.heap.size, 1, none⟩ = some (.string n) := hk.cell 1
  have d2 : w1.cell? ⟨W.heap.size, 2, none⟩ = some (.string v) := hk.cell 2
  have y0 : w1.cell? ⟨W.heap.size + 1, 0, none⟩ = some (.string m) := hy.cell 0
  have y1 : w1.cell? ⟨W.heap.size + 1, 1, none⟩ = some (.string h) := hy.cell 1
  have y2 : w1.cell? ⟨W.heap.size + 1, 2, none⟩ = some (.string p) := hy.cell 2
  have y3 : w1.cell? ⟨W.heap.size + 1, 3, none⟩ = some (.slice a0 l.length cap) := hy.cell 3
  have y4 : w1.cell? ⟨W.heap.size + 1, 4, none⟩ = some (.string b) := hy.cell 4
  have hlt := hk.lt
  have hlt2 := hy.lt
  have HB1 := hid (HB0.out.trans (hb1.mono (by simp; try omega)))
  have HN1 : Hid (Below W.heap.size W (w1.alloc (.cells #[.bool false, .bool true, .func (.func 245) #[] #[.pointer (some ⟨a, 0, none⟩), .pointer (some ⟨b', 0, none⟩)], .func (.func 225) #[] #[]] 204))) := hid (HB1.out.trans (by have := HB1.out.size; go_grown; all_goals omega))
  clear hb1 hk hka hy
  go_wp2_with fail
  refine (HC.out _).mono ?_
  rintro e w2 ⟨rfl, hb2⟩
  have HB2 := hid (HN1.out.trans (hb2.mono HN1.out.size))
  clear hb2
  go_wp2_with fail
  go_ret
  exact ⟨rfl, HB2.out⟩
set_option maxRecDepth 100000 in
set_option maxHeartbeats 1000000 in
theorem pmatch3 {pp : Nat → Prop} (n v m h p b : ByteArray) (l : List Hd) (a0 : Option Addr) (cap : Nat) (r : Bool) (W : World) (_hl : RowsOf pp Hd.enc 2 W (.slice a0 l.length cap) l) (_hp : ∀ b, pp b → b < W.heap.size) (_hn : l.length ≤ 1000000) (hr : decide (p = v) = r) :
    Calls Try.prog 158 #[.agg #[.int .i64 3, .string n, .string v], .agg #[.string m, .string h, .string p, .slice a0 l.length cap, .string b]] W fun e w' => e = .returned (.bool r) ∧ Below W.heap.size W w' := by
  have HO : Hid (∀ w, Calls Try.prog 152 #[.int .i64 3] w fun e w' => ∃ a b c d : Nat, e = .returned (.tuple #[.agg #[.bool false, .bool true, .func (.func 222) #[] #[], .func (.func 226) #[] #[]], .bool true]) ∧ Below w.heap.size w w' ∧ Hid (KindsAt w' a b c d)) := hid (fun w => of3 w)
  have HC := hid (fun w => mExact 3 n v m h p b (.slice a0 l.length cap) r w a0 l.length cap rfl hr)
  have HZ := hid ((Blk.new W #[.int .i64 3, .string n, .string v] 146).alloc (.cells #[.string m, .string h, .string p, .slice a0 l.length cap, .string b] 67))
  have HY := hid (Blk.new' (W.alloc (.cells #[.int .i64 3, .string n, .string v] 146)) #[.string m, .string h, .string p, .slice a0 l.length cap, .string b] 67 (n := W.heap.size + 1) (by simp))
  have HB0 : Hid (Below W.heap.size W ((W.alloc (.cells #[.int .i64 3, .string n, .string v] 146)).alloc (.cells #[.string m, .string h, .string p, .slice a0 l.length cap, .string b] 67))) := by show Below _ _ _; go_grown
  clear _hl _hp hr
  go_enter Try.func158, Try.ntmps158
  go_wp2_with fail
  refine (HO.out _).mono ?_
  rintro e w1 ⟨a, b', c, d, rfl, hb1, hka⟩
  have hk := HZ.out.later hb1
  have hy := HY.out.later hb1
  have d0 : w1.cell? ⟨W.heap.size, 0, none⟩ = some (.int .i64 3) := hk.cell 0
  have d1 : w1.cell? ⟨W.heap.size, 1, none⟩ = some (.string n) := hk.cell 1
  have d2 : w1.cell? ⟨W.heap.size, 2, none⟩ = some (.string v) := hk.cell 2
  have y0 : w1.cell? ⟨W.heap.size + 1, 0, none⟩ = some (.string m) := hy.cell 0
  have y1 : w1.cell? ⟨W.heap.size + 1, 1, none⟩ = some (.string h) := hy.cell 1
  have y2 : w1.cell? ⟨W.heap.size + 1, 2, none⟩ = some (.string p) := hy.cell 2
  have y3 : w1.cell? ⟨W.heap.size + 1, 3, none⟩ = some (.slice a0 l.length cap) := hy.cell 3
  have y4 : w1.cell? ⟨W.heap.size + 1, 4, none⟩ = some (.string b) := hy.cell 4
  have hlt := hk.lt
  have hlt2 := hy.lt
  have HB1 := hid (HB0.out.trans (hb1.mono (by simp; try omega)))
  have HN1 : Hid (Below W.heap.size W (w1.alloc (.cells #[.bool false, .bool true, .func (.func 222) #[] #[], .func (.func 226) #[] #[]] 204))) := hid (HB1.out.trans (by have := HB1.out.size; go_grown; all_goals omega))
  clear hb1 hk hka hy
  go_wp2_with fail
  refine (HC.out _).mono ?_
  rintro e w2 ⟨rfl, hb2⟩
  have HB2 := hid (HN1.out.trans (hb2.mono HN1.out.size))
  clear hb2
  go_wp2_with fail
  go_ret
  exact ⟨rfl, HB2.out⟩
set_option maxRecDepth 100000 in
set_option maxHeartbeats 1000000 in
theorem pmatch4 {pp : Nat → Prop} (n v m h p b : ByteArray) (l : List Hd) (a0 : Option Addr) (cap : Nat) (r : Bool) (W : World) (_hl : RowsOf pp Hd.enc 2 W (.slice a0 l.length cap) l) (_hp : ∀ b, pp b → b < W.heap.size) (_hn : l.length ≤ 1000000) (hr : prefR p v = r) :
    Calls Try.prog 158 #[.agg #[.int .i64 4, .string n, .string v], .agg #[.string m, .string h, .string p, .slice a0 l.length cap, .string b]] W fun e w' => e = .returned (.bool r) ∧ Below W.heap.size W w' := by
  have HO : Hid (∀ w, Calls Try.prog 152 #[.int .i64 4] w fun e w' => ∃ a b c d : Nat, e = .returned (.tuple #[.agg #[.bool false, .bool true, .func (.func 222) #[] #[], .func (.func 227) #[] #[]], .bool true]) ∧ Below w.heap.size w w' ∧ Hid (KindsAt w' a b c d)) := hid (fun w => of4 w)
  have HC := hid (fun w => mPrefix 4 n v m h p b (.slice a0 l.length cap) r w a0 l.length cap rfl hr)
  have HZ := hid ((Blk.new W #[.int .i64 4, .string n, .string v] 146).alloc (.cells #[.string m, .string h, .string p, .slice a0 l.length cap, .string b] 67))
  have HY := hid (Blk.new' (W.alloc (.cells #[.int .i64 4, .string n, .string v] 146)) #[.string m, .string h, .string p, .slice a0 l.length cap, .string b] 67 (n := W.heap.size + 1) (by simp))
  have HB0 : Hid (Below W.heap.size W ((W.alloc (.cells #[.int .i64 4, .string n, .string v] 146)).alloc (.cells #[.string m, .string h, .string p, .slice a0 l.length cap, .string b] 67))) := by show Below _ _ _; go_grown
  clear _hl _hp hr
  go_enter Try.func158, Try.ntmps158
  go_wp2_with fail
  refine (HO.out _).mono ?_
  rintro e w1 ⟨a, b', c, d, rfl, hb1, hka⟩
  have hk := HZ.out.later hb1
  have hy := HY.out.later hb1
  have d0 : w1.cell? ⟨W.heap.size, 0, none⟩ = some (.int .i64 4) := hk.cell 0
  have d1 : w1.cell? ⟨W.heap.size, 1, none⟩ = some (.string n) := hk.cell 1
  have d2 : w1.cell? ⟨W.heap.size, 2, none⟩ = some (.string v) := hk.cell 2
  have y0 : w1.cell? ⟨W.heap.size + 1, 0, none⟩ = some (.string m) := hy.cell 0
  have y1 : w1.cell? ⟨W.heap.size + 1, 1, none⟩ = some (.string h) := hy.cell 1
  have y2 : w1.cell? ⟨W.heap.size + 1, 2, none⟩ = some (.string p) := hy.cell 2
  have y3 : w1.cell? ⟨W.heap.size + 1, 3, none⟩ = some (.slice a0 l.length cap) := hy.cell 3
  have y4 : w1.cell? ⟨W.heap.size + 1, 4, none⟩ = some (.string b) := hy.cell 4
  have hlt := hk.lt
  have hlt2 := hy.lt
  have HB1 := hid (HB0.out.trans (hb1.mono (by simp; try omega)))
  have HN1 : Hid (Below W.heap.size W (w1.alloc (.cells #[.bool false, .bool true, .func (.func 222) #[] #[], .func (.func 227) #[] #[]] 204))) := hid (HB1.out.trans (by have := HB1.out.size; go_grown; all_goals omega))
  clear hb1 hk hka hy
  go_wp2_with fail
  refine (HC.out _).mono ?_
  rintro e w2 ⟨rfl, hb2⟩
  have HB2 := hid (HN1.out.trans (hb2.mono HN1.out.size))
  clear hb2
  go_wp2_with fail
  go_ret
  exact ⟨rfl, HB2.out⟩
set_option maxRecDepth 100000 in
set_option maxHeartbeats 1000000 in
theorem pmatch5 {pp : Nat → Prop} (n v m h p b : ByteArray) (l : List Hd) (a0 : Option Addr) (cap : Nat) (r : Bool) (W : World) (hl : RowsOf pp Hd.enc 2 W (.slice a0 l.length cap) l) (hp : ∀ b, pp b → b < W.heap.size) (hn : l.length ≤ 1000000) (hr : (Hd.allR l n).any (fun x => decide (x = v)) = r) :
    Calls Try.prog 158 #[.agg #[.int .i64 5, .string n, .string v], .agg #[.string m, .string h, .string p, .slice a0 l.length cap, .string b]] W fun e w' => e = .returned (.bool r) ∧ Below W.heap.size W w' := by
  have HO : Hid (∀ w, Calls Try.prog 152 #[.int .i64 5] w fun e w' => ∃ a b c d : Nat, e = .returned (.tuple #[.agg #[.bool true, .bool true, .func (.func 245) #[] #[.pointer (some ⟨c, 0, none⟩), .pointer (some ⟨d, 0, none⟩)], .func (.func 230) #[] #[]], .bool true]) ∧ Below w.heap.size w w' ∧ Hid (KindsAt w' a b c d)) := hid (fun w => of5 w)
  have HC := hid (fun w' (hw : Below W.heap.size W w') => mHead 5 n v m h p b (.slice a0 l.length cap) l r w' (hl.below hw hp) (fun b hb => Nat.lt_of_lt_of_le (hp b hb) hw.size) hn hr)
  have HZ := hid ((Blk.new W #[.int .i64 5, .string n, .string v] 146).alloc (.cells #[.string m, .string h, .string p, .slice a0 l.length cap, .string b] 67))
  have HY := hid (Blk.new' (W.alloc (.cells #[.int .i64 5, .string n, .string v] 146)) #[.string m, .string h, .string p, .slice a0 l.length cap, .string b] 67 (n := W.heap.size + 1) (by simp))
  have HB0 : Hid (Below W.heap.size W ((W.alloc (.cells #[.int .i64 5, .string n, .string v] 146)).alloc (.cells #[.string m, .string h, .string p, .slice a0 l.length cap, .string b] 67))) := by show Below _ _ _; go_grown
  clear hl hp hr
  go_enter Try.func158, Try.ntmps158
  go_wp2_with fail
  refine (HO.out _).mono ?_
  rintro e w1 ⟨a, b', c, d, rfl, hb1, hka⟩
  have hk := HZ.out.later hb1
  have hy := HY.out.later hb1
  have d0 : w1.cell? ⟨W.heap.size, 0, none⟩ = some (.int .i64 5) := hk.cell 0
  have d1 : w1.cell? ⟨W.heap.size, 1, none⟩ = some (.string n) := hk.cell 1
  have d2 : w1.cell? ⟨W.heap.size, 2, none⟩ = some (.string v) := hk.cell 2
  have y0 : w1.cell? ⟨W.heap.size + 1, 0, none⟩ = some (.string m) := hy.cell 0
  have y1 : w1.cell? ⟨W.heap.size + 1, 1, none⟩ = some (.string h) := hy.cell 1
  have y2 : w1.cell? ⟨W.heap.size + 1, 2, none⟩ = some (.string p) := hy.cell 2
  have y3 : w1.cell? ⟨W.heap.size + 1, 3, none⟩ = some (.slice a0 l.length cap) := hy.cell 3
  have y4 : w1.cell? ⟨W.heap.size + 1, 4, none⟩ = some (.string b) := hy.cell 4
  have hlt := hk.lt
  have hlt2 := hy.lt
  have HB1 := hid (HB0.out.trans (hb1.mono (by simp; try omega)))
  have HN1 : Hid (Below W.heap.size W (w1.alloc (.cells #[.bool true, .bool true, .func (.func 245) #[] #[.pointer (some ⟨c, 0, none⟩), .pointer (some ⟨d, 0, none⟩)], .func (.func 230) #[] #[]] 204))) := hid (HB1.out.trans (by have := HB1.out.size; go_grown; all_goals omega))
  clear hb1 hk hka hy
  go_wp2_with fail
  refine (HC.out _ HN1.out).mono ?_
  rintro e w2 ⟨rfl, hb2⟩
  have HB2 := hid (HN1.out.trans (hb2.mono HN1.out.size))
  clear hb2
  go_wp2_with fail
  go_ret
  exact ⟨rfl, HB2.out⟩
set_option maxRecDepth 100000 in
set_option maxHeartbeats 1000000 in
theorem pmatch6 {pp : Nat → Prop} (n v m h p b : ByteArray) (l : List Hd) (a0 : Option Addr) (cap : Nat) (r : Bool) (W : World) (hl : RowsOf pp Hd.enc 2 W (.slice a0 l.length cap) l) (hp : ∀ b, pp b → b < W.heap.size) (hn : l.length ≤ 1000000) (hr : decide (0 < (Hd.allR l n).length) = r) :
    Calls Try.prog 158 #[.agg #[.int .i64 6, .string n, .string v], .agg #[.string m, .string h, .string p, .slice a0 l.length cap, .string b]] W fun e w' => e = .returned (.bool r) ∧ Below W.heap.size W w' := by
  have HO : Hid (∀ w, Calls Try.prog 152 #[.int .i64 6] w fun e w' => ∃ a b c d : Nat, e = .returned (.tuple #[.agg #[.bool true, .bool false, .func (.func 232) #[] #[], .func (.func 233) #[] #[]], .bool true]) ∧ Below w.heap.size w w' ∧ Hid (KindsAt w' a b c d)) := hid (fun w => of6 w)
  have HC := hid (fun w' (hw : Below W.heap.size W w') => mHas 6 n v m h p b (.slice a0 l.length cap) l r w' (hl.below hw hp) (fun b hb => Nat.lt_of_lt_of_le (hp b hb) hw.size) hn hr)
  have HZ := hid ((Blk.new W #[.int .i64 6, .string n, .string v] 146).alloc (.cells #[.string m, .string h, .string p, .slice a0 l.length cap, .string b] 67))
  have HY := hid (Blk.new' (W.alloc (.cells #[.int .i64 6, .string n, .string v] 146)) #[.string m, .string h, .string p, .slice a0 l.length cap, .string b] 67 (n := W.heap.size + 1) (by simp))
  have HB0 : Hid (Below W.heap.size W ((W.alloc (.cells #[.int .i64 6, .string n, .string v] 146)).alloc (.cells #[.string m, .string h, .string p, .slice a0 l.length cap, .string b] 67))) := by show Below _ _ _; go_grown
  clear hl hp hr
  go_enter Try.func158, Try.ntmps158
  go_wp2_with fail
  refine (HO.out _).mono ?_
  rintro e w1 ⟨a, b', c, d, rfl, hb1, hka⟩
  have hk := HZ.out.later hb1
  have hy := HY.out.later hb1
  have d0 : w1.cell? ⟨W.heap.size, 0, none⟩ = some (.int .i64 6) := hk.cell 0
  have d1 : w1.cell? ⟨W.heap.size, 1, none⟩ = some (.string n) := hk.cell 1
  have d2 : w1.cell? ⟨W.heap.size, 2, none⟩ = some (.string v) := hk.cell 2
  have y0 : w1.cell? ⟨W.heap.size + 1, 0, none⟩ = some (.string m) := hy.cell 0
  have y1 : w1.cell? ⟨W.heap.size + 1, 1, none⟩ = some (.string h) := hy.cell 1
  have y2 : w1.cell? ⟨W.heap.size + 1, 2, none⟩ = some (.string p) := hy.cell 2
  have y3 : w1.cell? ⟨W.heap.size + 1, 3, none⟩ = some (.slice a0 l.length cap) := hy.cell 3
  have y4 : w1.cell? ⟨W.heap.size + 1, 4, none⟩ = some (.string b) := hy.cell 4
  have hlt := hk.lt
  have hlt2 := hy.lt
  have HB1 := hid (HB0.out.trans (hb1.mono (by simp; try omega)))
  have HN1 : Hid (Below W.heap.size W (w1.alloc (.cells #[.bool true, .bool false, .func (.func 232) #[] #[], .func (.func 233) #[] #[]] 204))) := hid (HB1.out.trans (by have := HB1.out.size; go_grown; all_goals omega))
  clear hb1 hk hka hy
  go_wp2_with fail
  refine (HC.out _ HN1.out).mono ?_
  rintro e w2 ⟨rfl, hb2⟩
  have HB2 := hid (HN1.out.trans (hb2.mono HN1.out.size))
  clear hb2
  go_wp2_with fail
  go_ret
  exact ⟨rfl, HB2.out⟩
set_option maxRecDepth 100000 in
set_option maxHeartbeats 1000000 in
theorem pmatch0 (k : Int) (n v m h p b : ByteArray) (a0 : Option Addr) (len cap : Nat) (W : World) (hk : k < 1 ∨ 6 < k) :
    Calls Try.prog 158 #[.agg #[.int .i64 k, .string n, .string v], .agg #[.string m, .string h, .string p, .slice a0 len cap, .string b]] W fun e w' => e = .returned (.bool false) ∧ Below W.heap.size W w' := by
  have HO : Hid (∀ w, Calls Try.prog 152 #[.int .i64 k] w fun e w' => e = .returned (.tuple #[.agg #[.bool false, .bool false, .nilFunc, .nilFunc], .bool false]) ∧ Below w.heap.size w w') := hid (fun w => hk.elim (fun h => of_low k w h) (fun h => of_high k w h))
  have HB0 : Hid (Below W.heap.size W ((W.alloc (.cells #[.int .i64 k, .string n, .string v] 146)).alloc (.cells #[.string m, .string h, .string p, .slice a0 len cap, .string b] 67))) := by show Below _ _ _; go_grown
  clear hk
  go_enter Try.func158, Try.ntmps158
  go_wp2_with fail
  refine (HO.out _).mono ?_
  rintro e w1 ⟨rfl, hb1⟩
  have HB1 := hid (HB0.out.trans (hb1.mono HB0.out.size))
  have HN1 : Hid (Below W.heap.size W (w1.alloc (.cells #[.bool false, .bool false, .nilFunc, .nilFunc] 204))) := hid (HB1.out.trans (by have := HB1.out.size; go_grown; all_goals omega))
  clear hb1
  go_wp2_with fail
  go_ret
  exact ⟨rfl, HN1.out⟩
theorem pmatch_any {pp : Nat → Prop} (k : Int) (n v m h p b : ByteArray) (l : List Hd) (hd : Value) (r : Bool) (W : World) (hl : RowsOf pp Hd.enc 2 W hd l) (hp : ∀ b, pp b → b < W.heap.size) (hn : l.length ≤ 1000000) (hr : matchR k n v m h p l = r) :
    Calls Try.prog 158 #[.agg #[.int .i64 k, .string n, .string v], .agg #[.string m, .string h, .string p, hd, .string b]] W fun e w' => e = .returned (.bool r) ∧ Below W.heap.size W w' := by
  obtain ⟨a0, cap, rfl⟩ := hl.form
  unfold matchR at hr
  by_cases h1 : k = 1
  · rw [if_pos h1] at hr
    subst h1
    exact pmatch1 n v m h p b l a0 cap r W hl hp hn hr
  rw [if_neg h1] at hr
  by_cases h2 : k = 2
  · rw [if_pos h2] at hr
    subst h2
    exact pmatch2 n v m h p b l a0 cap r W hl hp hn hr
  rw [if_neg h2] at hr
  by_cases h3 : k = 3
  · rw [if_pos h3] at hr
    subst h3
    exact pmatch3 n v m h p b l a0 cap r W hl hp hn hr
  rw [if_neg h3] at hr
  by_cases h4 : k = 4
  · rw [if_pos h4] at hr
    subst h4
    exact pmatch4 n v m h p b l a0 cap r W hl hp hn hr
  rw [if_neg h4] at hr
  by_cases h5 : k = 5
  · rw [if_pos h5] at hr
    subst h5
    exact pmatch5 n v m h p b l a0 cap r W hl hp hn hr
  rw [if_neg h5] at hr
  by_cases h6 : k = 6
  · rw [if_pos h6] at hr
    subst h6
    exact pmatch6 n v m h p b l a0 cap r W hl hp hn hr
  rw [if_neg h6] at hr
  subst hr
  exact pmatch0 k n v m h p b a0 l.length cap W (by omega)
end C11
end Go.Proofs.Ytmmmaldpalhjeaa
namespace Go.Proofs.Ytmmmaldpalhjeaa
open Go.RowKit Go.Peri
namespace C11
set_option maxRecDepth 100000 in
set_option maxHeartbeats 1000000 in
theorem rmatch1 {pp : Nat → Prop} (n v m h p b : ByteArray) (l : List Hd) (a0 : Option Addr) (cap : Nat) (r : Bool) (W : World) (hl : RowsOf pp Hd.enc 2 W (.slice a0 l.length cap) l) (hp : ∀ b, pp b → b < W.heap.size) (hn : l.length ≤ 1000000) (hr : decide (m = v) = r) :
    Calls Try.prog 159 #[.agg #[.int .i64 1, .string n, .string v], .agg #[.string m, .string h, .string p, .slice a0 l.length cap, .string b]] W fun e w' => e = .returned (.bool r) ∧ Below W.heap.size W w' := by
  have HA := hid (fun w' (hw : Below W.heap.size W w') => C04.rall_any (.slice a0 l.length cap) l n w' (hl.below hw hp) (fun b hb => Nat.lt_of_lt_of_le (hp b hb) hw.size) (by omega))
  have HZ := hid ((Blk.new W #[.int .i64 1, .string n, .string v] 146).alloc (.cells #[.string m, .string h, .string p, .slice a0 l.length cap, .string b] 67))
  have HY := hid (Blk.new' (W.alloc (.cells #[.int .i64 1, .string n, .string v] 146)) #[.string m, .string h, .string p, .slice a0 l.length cap, .string b] 67 (n := W.heap.size + 1) (by simp))
  have HB0 : Hid (Below W.heap.size W ((W.alloc (.cells #[.int .i64 1, .string n, .string v] 146)).alloc (.cells #[.string m, .string h, .string p, .slice a0 l.length cap, .string b] 67))) := by show Below _ _ _; go_grown
  have k1 := (strEq_of hr).eq
  have k2 := (strEq_of hr).ne
  clear hl hp hr
  go_enter Try.func159, Try.ntmps159
  go_wp2_with fail
  refine (HA.out _ HB0.out).mono ?_
  rintro e w1 ⟨a1, c1, rfl, hb1, hrow⟩
  have hk := HZ.out.later hb1
  have hy := HY.out.later hb1
  have d0 : w1.cell? ⟨W.heap.size, 0, none⟩ = some (.int .i64 1) := hk.cell 0
  have d2 : w1.cell? ⟨W.heap.size, 2, none⟩ = some (.string v) := hk.cell 2
  have y0 : w1.cell? ⟨W.heap.size + 1, 0, none⟩ = some (.string m) := hy.cell 0
  have y1 : w1.cell? ⟨W.heap.size + 1, 1, none⟩ = some (.string h) := hy.cell 1
  have y2 : w1.cell? ⟨W.heap.size + 1, 2, none⟩ = some (.string p) := hy.cell 2
  have hlt := hk.lt
  have hlt2 := hy.lt
  have HB1 := hid (HB0.out.trans (hb1.mono HB0.out.size))
  clear hb1 hk hy
  clear hrow
  go_wp2_with fail
  go_ret
  exact ⟨rfl, HB1.out⟩
set_option maxRecDepth 100000 in
set_option maxHeartbeats 1000000 in
theorem rmatch2 {pp : Nat → Prop} (n v m h p b : ByteArray) (l : List Hd) (a0 : Option Addr) (cap : Nat) (r : Bool) (W : World) (hl : RowsOf pp Hd.enc 2 W (.slice a0 l.length cap) l) (hp : ∀ b, pp b → b < W.heap.size) (hn : l.length ≤ 1000000) (hr : decide (h = v) = r) :
    Calls Try.prog 159 #[.agg #[.int .i64 2, .string n, .string v], .agg #[.string m, .string h, .string p, .slice a0 l.length cap, .string b]] W fun e w' => e = .returned (.bool r) ∧ Below W.heap.size W w' := by
  have HA := hid (fun w' (hw : Below W.heap.size W w') => C04.rall_any (.slice a0 l.length cap) l n w' (hl.below hw hp) (fun b hb => Nat.lt_of_lt_of_le (hp b hb) hw.size) (by omega))
  have HZ := hid ((Blk.new W #[.int .i64 2, .string n, .string v] 146).alloc (.cells #[.string m, .string h, .string p, .slice a0 l.length cap, .string b] 67))
  have HY := hid (Blk.new' (W.alloc (.cells #[.int .i64 2, .string n, .string v] 146)) #[.string m, .string h, .string p, .slice a0 l.length cap, .string b] 67 (n := W.heap.size + 1) (by simp))
  have HB0 : Hid (Below W.heap.size W ((W.alloc (.cells #[.int .i64 2, .string n, .string v] 146)).alloc (.cells #[.string m, .string h, .string p, .slice a0 l.length cap, .string b] 67))) := by show Below _ _ _; go_grown
  have k1 := (strEq_of hr).eq
  have k2 := (strEq_of hr).ne
  clear hl hp hr
  go_enter Try.func159, Try.ntmps159
  go_wp2_with fail
  refine (HA.out _ HB0.out).mono ?_
  rintro e w1 ⟨a1, c1, rfl, hb1, hrow⟩
  have hk := HZ.out.later hb1
  have hy := HY.out.later hb1
  have d0 : w1.cell? ⟨W.heap.size, 0, none⟩ = some (.int .i64 2) := hk.cell 0
  have d2 : w1.cell? ⟨W.heap.size, 2, none⟩ = some (.string v) := hk.cell 2
  have y0 : w1.cell? ⟨W.heap.size + 1, 0, none⟩ = some (.string m) := hy.cell 0
  have y1 : w1.cell? ⟨W.heap.size + 1, 1, none⟩ = some (.string h) := hy.cell 1
  have y2 : w1.cell? ⟨W.heap.size + 1, 2, none⟩ = some (.string p) := hy.cell 2
  have hlt := hk.lt
  have hlt2 := hy.lt
  have HB1 := hid (HB0.out.trans (hb1.mono HB0.out.size))
  clear hb1 hk hy
  clear hrow
  go_wp2_with fail
  go_ret
  exact ⟨rfl, HB1.out⟩
set_option maxRecDepth 100000 in
set_option maxHeartbeats 1000000 in
theorem rmatch3 {pp : Nat → Prop} (n v m h p b : ByteArray) (l : List Hd) (a0 : Option Addr) (cap : Nat) (r : Bool) (W : World) (hl : RowsOf pp Hd.enc 2 W (.slice a0 l.length cap) l) (hp : ∀ b, pp b → b < W.heap.size) (hn : l.length ≤ 1000000) (hr : decide (p = v) = r) :
    Calls Try.prog 159 #[.agg #[.int .i64 3, .string n, .string v], .agg #[.string m, .string h, .string p, .slice a0 l.length cap, .string b]] W fun e w' => e = .returned (.bool r) ∧ Below W.heap.size W w' := by
  have HA := hid (fun w' (hw : Below W.heap.size W w') => C04.rall_any (.slice a0 l.length cap) l n w' (hl.below hw hp) (fun b hb => Nat.lt_of_lt_of_le (hp b hb) hw.size) (by omega))
  have HZ := hid ((Blk.new W #[.int .i64 3, .string n, .string v] 146).alloc (.cells #[.string m, .string h, .string p, .slice a0 l.length cap, .string b] 67))
  have HY := hid (Blk.new' (W.alloc (.cells #[.int .i64 3, .string n, .string v] 146)) #[.string m, .string h, .string p, .slice a0 l.length cap, .string b] 67 (n := W.heap.size + 1) (by simp))
  have HB0 : Hid (Below W.heap.size W ((W.alloc (.cells #[.int .i64 3, .string n, .string v] 146)).alloc (.cells #[.string m, .string h, .string p, .slice a0 l.length cap, .string b] 67))) := by show Below _ _ _; go_grown
  have k1 := (strEq_of hr).eq
  have k2 := (strEq_of hr).ne
  clear hl hp hr
  go_enter Try.func159, Try.ntmps159
  go_wp2_with fail
  refine (HA.out _ HB0.out).mono ?_
  rintro e w1 ⟨a1, c1, rfl, hb1, hrow⟩
  have hk := HZ.out.later hb1
  have hy := HY.out.later hb1
  have d0 : w1.cell? ⟨W.heap.size, 0, none⟩ = some (.int .i64 3) := hk.cell 0
  have d2 : w1.cell? ⟨W.heap.size, 2, none⟩ = some (.string v) := hk.cell 2
  have y0 : w1.cell? ⟨W.heap.size + 1, 0, none⟩ = some (.string m) := hy.cell 0
  have y1 : w1.cell? ⟨W.heap.size + 1, 1, none⟩ = some (.string h) := hy.cell 1
  have y2 : w1.cell? ⟨W.heap.size + 1, 2, none⟩ = some (.string p) := hy.cell 2
  have hlt := hk.lt
  have hlt2 := hy.lt
  have HB1 := hid (HB0.out.trans (hb1.mono HB0.out.size))
  clear hb1 hk hy
  clear hrow
  go_wp2_with fail
  go_ret
  exact ⟨rfl, HB1.out⟩
set_option maxRecDepth 100000 in
set_option maxHeartbeats 1000000 in
theorem rmatch4a {pp : Nat → Prop} (n v m h p b : ByteArray) (l : List Hd) (a0 : Option Addr) (cap : Nat) (r : Bool) (W : World) (hl : RowsOf pp Hd.enc 2 W (.slice a0 l.length cap) l) (hp : ∀ b, pp b → b < W.heap.size) (hn : l.length ≤ 1000000) (hg : v.size ≤ p.size) (hr : decide (p.extract 0 v.size = v) = r) :
    Calls Try.prog 159 #[.agg #[.int .i64 4, .string n, .string v], .agg #[.string m, .string h, .string p, .slice a0 l.length cap, .string b]] W fun e w' => e = .returned (.bool r) ∧ Below W.heap.size W w' := by
  have HA := hid (fun w' (hw : Below W.heap.size W w') => C04.rall_any (.slice a0 l.length cap) l n w' (hl.below hw hp) (fun b hb => Nat.lt_of_lt_of_le (hp b hb) hw.size) (by omega))
  have HZ := hid ((Blk.new W #[.int .i64 4, .string n, .string v] 146).alloc (.cells #[.string m, .string h, .string p, .slice a0 l.length cap, .string b] 67))
  have HY := hid (Blk.new' (W.alloc (.cells #[.int .i64 4, .string n, .string v] 146)) #[.string m, .string h, .string p, .slice a0 l.length cap, .string b] 67 (n := W.heap.size + 1) (by simp))
  have HB0 : Hid (Below W.heap.size W ((W.alloc (.cells #[.int .i64 4, .string n, .string v] 146)).alloc (.cells #[.string m, .string h, .string p, .slice a0 l.length cap, .string b] 67))) := by show Below _ _ _; go_grown
  have k1 := (strEq_of hr).eq
  have k2 := (strEq_of hr).ne
  clear hl hp hr
  have g1 : (v.size : Int) ≤ (p.size : Int) := by omega
  go_enter Try.func159, Try.ntmps159
  go_wp2_with fail
  refine (HA.out _ HB0.out).mono ?_
  rintro e w1 ⟨a1, c1, rfl, hb1, hrow⟩
  have hk := HZ.out.later hb1
  have hy := HY.out.later hb1
  have d0 : w1.cell? ⟨W.heap.size, 0, none⟩ = some (.int .i64 4) := hk.cell 0
  have d2 : w1.cell? ⟨W.heap.size, 2, none⟩ = some (.string v) := hk.cell 2
  have y0 : w1.cell? ⟨W.heap.size + 1, 0, none⟩ = some (.string m) := hy.cell 0
  have y1 : w1.cell? ⟨W.heap.size + 1, 1, none⟩ = some (.string h) := hy.cell 1
  have y2 : w1.cell? ⟨W.heap.size + 1, 2, none⟩ = some (.string p) := hy.cell 2
  have hlt := hk.lt
  have hlt2 := hy.lt
  have HB1 := hid (HB0.out.trans (hb1.mono HB0.out.size))
  clear hb1 hk hy
  clear hrow
  go_wp2_with fail
  go_quiet (fail)
  go_wp2_with fail
  go_ret
  exact ⟨rfl, HB1.out.trans ⟨rfl, rfl, rfl, Nat.le_refl _, fun _ _ => rfl⟩⟩
set_option maxRecDepth 100000 in
set_option maxHeartbeats 1000000 in
theorem rmatch4b {pp : Nat → Prop} (n v m h p b : ByteArray) (l : List Hd) (a0 : Option Addr) (cap : Nat) (W : World) (hl : RowsOf pp Hd.enc 2 W (.slice a0 l.length cap) l) (hp : ∀ b, pp b → b < W.heap.size) (hn : l.length ≤ 1000000) (hg : ¬ v.size ≤ p.size) :
    Calls Try.prog 159 #[.agg #[.int .i64 4, .string n, .string v], .agg #[.string m, .string h, .string p, .slice a0 l.length cap, .string b]] W fun e w' => e = .returned (.bool false) ∧ Below W.heap.size W w' := by
  have HA := hid (fun w' (hw : Below W.heap.size W w') => C04.rall_any (.slice a0 l.length cap) l n w' (hl.below hw hp) (fun b hb => Nat.lt_of_lt_of_le (hp b hb) hw.size) (by omega))
  have HZ := hid ((Blk.new W #[.int .i64 4, .string n, .string v] 146).alloc (.cells #[.string m, .string h, .string p, .slice a0 l.length cap, .string b] 67))
  have HY := hid (Blk.new' (W.alloc (.cells #[.int .i64 4, .string n, .string v] 146)) #[.string m, .string h, .string p, .slice a0 l.length cap, .string b] 67 (n := W.heap.size + 1) (by simp))
  have HB0 : Hid (Below W.heap.size W ((W.alloc (.cells #[.int .i64 4, .string n, .string v] 146)).alloc (.cells #[.string m, .string h, .string p, .slice a0 l.length cap, .string b] 67))) := by show Below _ _ _; go_grown
  clear hl hp
  have g1 : ¬ (v.size : Int) ≤ (p.size : Int) := by omega
  have g2 : (p.size : Int) < (v.size : Int) := by omega
  go_enter Try.func159, Try.ntmps159
  go_wp2_with fail
  refine (HA.out _ HB0.out).mono ?_
  rintro e w1 ⟨a1, c1, rfl, hb1, hrow⟩
  have hk := HZ.out.later hb1
  have hy := HY.out.later hb1
  have d0 : w1.cell? ⟨W.heap.size, 0, none⟩ = some (.int .i64 4) := hk.cell 0
  have d2 : w1.cell? ⟨W.heap.size, 2, none⟩ = some (.string v) := hk.cell 2
  have y0 : w1.cell? ⟨W.heap.size + 1, 0, none⟩ = some (.string m) := hy.cell 0
  have y1 : w1.cell? ⟨W.heap.size + 1, 1, none⟩ = some (.string h) := hy.cell 1
  have y2 : w1.cell? ⟨W.heap.size + 1, 2, none⟩ = some (.string p) := hy.cell 2
  have hlt := hk.lt
  have hlt2 := hy.lt
  have HB1 := hid (HB0.out.trans (hb1.mono HB0.out.size))
  clear hb1 hk hy
  clear hrow
  go_wp2_with fail
  go_quiet (fail)
  go_wp2_with fail
  go_ret
  exact ⟨rfl, HB1.out.trans ⟨rfl, rfl, rfl, Nat.le_refl _, fun _ _ => rfl⟩⟩
set_option maxRecDepth 100000 in
set_option maxHeartbeats 1000000 in
theorem rmatch6 {pp : Nat → Prop} (n v m h p b : ByteArray) (l : List Hd) (a0 : Option Addr) (cap : Nat) (r : Bool) (W : World) (hl : RowsOf pp Hd.enc 2 W (.slice a0 l.length cap) l) (hp : ∀ b, pp b → b < W.heap.size) (hn : l.length ≤ 1000000) (hr : decide (0 < (Hd.allR l n).length) = r) :
    Calls Try.prog 159 #[.agg #[.int .i64 6, .string n, .string v], .agg #[.string m, .string h, .string p, .slice a0 l.length cap, .string b]] W fun e w' => e = .returned (.bool r) ∧ Below W.heap.size W w' := by
  have HA := hid (fun w' (hw : Below W.heap.size W w') => C04.rall_any (.slice a0 l.length cap) l n w' (hl.below hw hp) (fun b hb => Nat.lt_of_lt_of_le (hp b hb) hw.size) (by omega))
  have HZ := hid ((Blk.new W #[.int .i64 6, .string n, .string v] 146).alloc (.cells #[.string m, .string h, .string p, .slice a0 l.length cap, .string b] 67))
  have HY := hid (Blk.new' (W.alloc (.cells #[.int .i64 6, .string n, .string v] 146)) #[.string m, .string h, .string p, .slice a0 l.length cap, .string b] 67 (n := W.heap.size + 1) (by simp))
  have HB0 : Hid (Below W.heap.size W ((W.alloc (.cells #[.int .i64 6, .string n, .string v] 146)).alloc (.cells #[.string m, .string h, .string p, .slice a0 l.length cap, .string b] 67))) := by show Below _ _ _; go_grown
  have HR := hid hr
  clear hl hp hr
  go_enter Try.func159, Try.ntmps159
  go_wp2_with fail
  refine (HA.out _ HB0.out).mono ?_
  rintro e w1 ⟨a1, c1, rfl, hb1, hrow⟩
  have hk := HZ.out.later hb1
  have hy := HY.out.later hb1
  have d0 : w1.cell? ⟨W.heap.size, 0, none⟩ = some (.int .i64 6) := hk.cell 0
  have d2 : w1.cell? ⟨W.heap.size, 2, none⟩ = some (.string v) := hk.cell 2
  have y0 : w1.cell? ⟨W.heap.size + 1, 0, none⟩ = some (.string m) := hy.cell 0
  have y1 : w1.cell? ⟨W.heap.size + 1, 1, none⟩ = some (.string h) := hy.cell 1
  have y2 : w1.cell? ⟨W.heap.size + 1, 2, none⟩ = some (.string p) := hy.cell 2
  have hlt := hk.lt
  have hlt2 := hy.lt
  have HB1 := hid (HB0.out.trans (hb1.mono HB0.out.size))
  clear hb1 hk hy
  clear hrow
  go_wp2_with fail
  go_ret
  exact ⟨by rw [← HR.out]; rfl, HB1.out⟩
set_option maxRecDepth 100000 in
set_option maxHeartbeats 1000000 in
theorem rmatch0 {pp : Nat → Prop} (k : Int) (n v m h p b : ByteArray) (l : List Hd) (a0 : Option Addr) (cap : Nat) (W : World) (hl : RowsOf pp Hd.enc 2 W (.slice a0 l.length cap) l) (hp : ∀ b, pp b → b < W.heap.size) (hn : l.length ≤ 1000000) (hk : k < 1 ∨ 6 < k) :
    Calls Try.prog 159 #[.agg #[.int .i64 k, .string n, .string v], .agg #[.string m, .string h, .string p, .slice a0 l.length cap, .string b]] W fun e w' => e = .returned (.bool false) ∧ Below W.heap.size W w' := by
  have HA := hid (fun w' (hw : Below W.heap.size W w') => C04.rall_any (.slice a0 l.length cap) l n w' (hl.below hw hp) (fun b hb => Nat.lt_of_lt_of_le (hp b hb) hw.size) (by omega))
  have HZ := hid ((Blk.new W #[.int .i64 k, .string n, .string v] 146).alloc (.cells #[.string m, .string h, .string p, .slice a0 l.length cap, .string b] 67))
  have HY := hid (Blk.new' (W.alloc (.cells #[.int .i64 k, .string n, .string v] 146)) #[.string m, .string h, .string p, .slice a0 l.length cap, .string b] 67 (n := W.heap.size + 1) (by simp))
  have HB0 : Hid (Below W.heap.size W ((W.alloc (.cells #[.int .i64 k, .string n, .string v] 146)).alloc (.cells #[.string m, .string h, .string p, .slice a0 l.length cap, .string b] 67))) := by show Below _ _ _; go_grown
  have e1 : (k == 1) = false := beq_eq_false_iff_ne.2 (by omega)
  have e2 : (k == 2) = false := beq_eq_false_iff_ne.2 (by omega)
  have e3 : (k == 3) = false := beq_eq_false_iff_ne.2 (by omega)
  have e4 : (k == 4) = false := beq_eq_false_iff_ne.2 (by omega)
  have e5 : (k == 5) = false := beq_eq_false_iff_ne.2 (by omega)
  have e6 : (k == 6) = false := beq_eq_false_iff_ne.2 (by omega)
  clear hl hp hk
  go_enter Try.func159, Try.ntmps159
  go_wp2_with fail
  refine (HA.out _ HB0.out).mono ?_
  rintro e w1 ⟨a1, c1, rfl, hb1, hrow⟩
  have hk := HZ.out.later hb1
  have hy := HY.out.later hb1
  have d0 : w1.cell? ⟨W.heap.size, 0, none⟩ = some (.int .i64 k) := hk.cell 0
  have d2 : w1.cell? ⟨W.heap.size, 2, none⟩ = some (.string v) := hk.cell 2
  have y0 : w1.cell? ⟨W.heap.size + 1, 0, none⟩ = some (.string m) := hy.cell 0
  have y1 : w1.cell? ⟨W.heap.size + 1, 1, none⟩ = some (.string h) := hy.cell 1
  have y2 : w1.cell? ⟨W.heap.size + 1, 2, none⟩ = some (.string p) := hy.cell 2
  have hlt := hk.lt
  have hlt2 := hy.lt
  have HB1 := hid (HB0.out.trans (hb1.mono HB0.out.size))
  clear hb1 hk hy
  clear hrow
  go_wp2_with fail
  go_ret
  exact ⟨rfl, HB1.out⟩
set_option maxRecDepth 100000 in
set_option maxHeartbeats 1000000 in
theorem rmatch5 {pp : Nat → Prop} (n v m h p b : ByteArray) (l : List Hd) (a0 : Option Addr) (cap : Nat) (r : Bool) (W : World) (hl : RowsOf pp Hd.enc 2 W (.slice a0 l.length cap) l) (hp : ∀ b, pp b → b < W.heap.size) (hn : l.length ≤ 1000000) (hr : (Hd.allR l n).any (fun x => decide (x = v)) = r) :
    Calls Try.prog 159 #[.agg #[.int .i64 5, .string n, .string v], .agg #[.string m, .string h, .string p, .slice a0 l.length cap, .string b]] W fun e w' => e = .returned (.bool r) ∧ Below W.heap.size W w' := by
  have HA := hid (fun w' (hw : Below W.heap.size W w') => C04.rall_any (.slice a0 l.length cap) l n w' (hl.below hw hp) (fun b hb => Nat.lt_of_lt_of_le (hp b hb) hw.size) (by omega))
  have HZ := hid ((Blk.new W #[.int .i64 5, .string n, .string v] 146).alloc (.cells #[.string m, .string h, .string p, .slice a0 l.length cap, .string b] 67))
  have HY := hid (Blk.new' (W.alloc (.cells #[.int .i64 5, .string n, .string v] 146)) #[.string m, .string h, .string p, .slice a0 l.length cap, .string b] 67 (n := W.heap.size + 1) (by simp))
  have HB0 : Hid (Below W.heap.size W ((W.alloc (.cells #[.int .i64 5, .string n, .string v] 146)).alloc (.cells #[.string m, .string h, .string p, .slice a0 l.length cap, .string b] 67))) := by show Below _ _ _; go_grown
  have HR := hid hr
  clear hl hp hr
  go_enter Try.func159, Try.ntmps159
  go_wp2_with fail
  refine (HA.out _ HB0.out).mono ?_
  rintro e w1 ⟨a1, c1, rfl, hb1, hrow⟩
  have hk := HZ.out.later hb1
  have hy := HY.out.later hb1
  have d0 : w1.cell? ⟨W.heap.size, 0, none⟩ = some (.int .i64 5) := hk.cell 0
  have d2 : w1.cell? ⟨W.heap.size, 2, none⟩ = some (.string v) := hk.cell 2
  have y0 : w1.cell? ⟨W.heap.size + 1, 0, none⟩ = some (.string m) := hy.cell 0
  have y1 : w1.cell? ⟨W.heap.size + 1, 1, none⟩ = some (.string h) := hy.cell 1
  have y2 : w1.cell? ⟨W.heap.size + 1, 2, none⟩ = some (.string p) := hy.cell 2
  have hlt := hk.lt
  have hlt2 := hy.lt
  have HB1 := hid (HB0.out.trans (hb1.mono HB0.out.size))
  clear hb1 hk hy
  have hlen : (Hd.allR l n).length ≤ 1000000 := by unfold Hd.allR; rw [List.length_map]; exact Nat.le_trans (List.length_filter_le _ _) hn
  generalize Hd.allR l n = acc at hrow HR hlen
  obtain ⟨aa, cc, e9, hcc, hcm, _, hcell⟩ := RowsOf.of_owns sEnc_length hrow.out
  cases e9
  have HC := hid hcell
  clear hrow hcell
  go_wp2_with fail
  go_loopw [6] (fun i wr => ∃ k : Nat, k ≤ acc.length ∧ i = .int .i64 k ∧ Below w1.heap.size w1 wr ∧ ∀ j (_ : j < k) (hj : j < acc.length), acc[j] ≠ v) (fun i _ => acc.length - (intOf i).toNat)
  case atStart => exact ⟨0, Nat.zero_le _, rfl, Below.refl _ _, fun j hj => absurd hj (Nat.not_lt_zero _)⟩
  case round =>
    obtain ⟨k, hk, rfl, hbr, hno⟩ := hrel
    have HN := hid hno
    have HBR := hid hbr
    have HB2 := hid (HB1.out.trans (hbr.mono HB1.out.size))
    have d2' : wr.cell? ⟨W.heap.size, 2, none⟩ = some (.string v) := (hbr.cell (p := ⟨W.heap.size, 2, none⟩) hlt).trans d2
    have hlt' := Nat.lt_of_lt_of_le hlt hbr.size
    clear hno hbr
    by_cases hlt3 : k < acc.length
    · obtain ⟨bb, off, rfl, hpb, hc⟩ := HC.out.resolve_left (by intro e; rw [e] at hlt3; simp at hlt3)
      have hpl : bb < w1.heap.size := hpb.2
      have c0 := C04.s_cell (w := wr) (fun i hi j u hu => (HBR.out.cell (p := ⟨bb, _, none⟩) hpl).trans (hc i hi j u hu)) k hlt3
      have hbl3 := Nat.lt_of_lt_of_le hpl HBR.out.size
      obtain ⟨bq, hq⟩ : ∃ bq, decide (acc[k] = v) = bq := ⟨_, rfl⟩
      obtain ⟨s1, s2⟩ := strEq_of hq
      have HNext : Hid (bq = false → ∀ j (_ : j < k + 1) (hj : j < acc.length), acc[j] ≠ v) := by
        intro e j hj hjl
        by_cases e2 : j = k
        · subst e2; rw [e] at hq; exact of_decide_eq_false hq
        · exact HN.out j (by omega) hjl
      have HHit : Hid (bq = true → r = true) := fun e => by
        rw [e] at hq
        rw [← HR.out, List.any_eq_true]
        exact ⟨acc[k], List.getElem_mem hlt3, by simpa using of_decide_eq_true hq⟩
      clear hc hq
      generalize acc[k] = y at c0 s1 s2
      cases bq
      · go_wp2_with fail
        go_quiet (fail)
        go_wp2_with fail
        go_roundw
        case rel => exact ⟨k + 1, by omega, by go_num, HBR.out.trans ⟨rfl, rfl, rfl, Nat.le_refl _, fun _ _ => rfl⟩, HNext.out (by simp)⟩
        case measure => simp [intOf]; omega
      · go_wp2_with fail
        go_quiet (fail)
        go_wp2_with fail
        go_ret
        exact ⟨by rw [HHit.out (by simp)]; rfl, HB2.out.trans ⟨rfl, rfl, rfl, Nat.le_refl _, fun _ _ => rfl⟩⟩
    · obtain rfl : k = acc.length := by omega
      have hd : Hid (r = false) := hid (by
        rw [← HR.out, List.any_eq_false]
        intro x hx
        obtain ⟨i, hi, rfl⟩ := List.getElem_of_mem hx
        simpa using HN.out i hi hi)
      go_wp2_with fail
      go_ret
      exact ⟨by rw [hd.out]; rfl, HB2.out⟩
theorem rmatch_any {pp : Nat → Prop} (k : Int) (n v m h p b : ByteArray) (l : List Hd) (hd : Value) (r : Bool) (W : World) (hl : RowsOf pp Hd.enc 2 W hd l) (hp : ∀ b, pp b → b < W.heap.size) (hn : l.length ≤ 1000000) (hr : matchR k n v m h p l = r) :
    Calls Try.prog 159 #[.agg #[.int .i64 k, .string n, .string v], .agg #[.string m, .string h, .string p, hd, .string b]] W fun e w' => e = .returned (.bool r) ∧ Below W.heap.size W w' := by
  obtain ⟨a0, cap, rfl⟩ := hl.form
  unfold matchR at hr
  by_cases h1 : k = 1
  · rw [if_pos h1] at hr
    subst h1
    exact rmatch1 n v m h p b l a0 cap r W hl hp hn hr
  rw [if_neg h1] at hr
  by_cases h2 : k = 2
  · rw [if_pos h2] at hr
    subst h2
    exact rmatch2 n v m h p b l a0 cap r W hl hp hn hr
  rw [if_neg h2] at hr
  by_cases h3 : k = 3
  · rw [if_pos h3] at hr
    subst h3
    exact rmatch3 n v m h p b l a0 cap r W hl hp hn hr
  rw [if_neg h3] at hr
  by_cases h4 : k = 4
  · rw [if_pos h4] at hr
    subst h4
    unfold prefR at hr
    by_cases hg : v.size ≤ p.size
    · rw [decide_eq_true hg, Bool.true_and] at hr
      exact rmatch4a n v m h p b l a0 cap r W hl hp hn hg hr
    · rw [decide_eq_false hg, Bool.false_and] at hr
      subst hr
      exact rmatch4b n v m h p b l a0 cap W hl hp hn hg
  rw [if_neg h4] at hr
  by_cases h5 : k = 5
  · rw [if_pos h5] at hr
    subst h5
    exact rmatch5 n v m h p b l a0 cap r W hl hp hn hr
  rw [if_neg h5] at hr
  by_cases h6 : k = 6
  · rw [if_pos h6] at hr
    subst h6
    exact rmatch6 n v m h p b l a0 cap r W hl hp hn hr
  rw [if_neg h6] at hr
  subst hr
  exact rmatch0 k n v m h p b l a0 cap W hl hp hn (by omega)
end C11
end Go.Proofs.Ytmmmaldpalhjeaa
namespace Go.Peri
open Go.RowKit
/-- A span. -/
structure Sp where
  hi : Nat
  lo : Nat
  id : Nat
  up : Nat
  name : ByteArray
  status : Int
  seq : Int
  kids : Int
  shadow : Bool
  start : Int
  stop : Int
namespace Sp
def enc (s : Sp) : List Value := [.int .u64 s.hi, .int .u64 s.lo, .int .u64 s.id, .int .u64 s.up, .string s.name, .int .i64 s.status, .int .i64 s.seq, .int .i64 s.kids, .bool s.shadow, .int .i64 s.start, .int .i64 s.stop]
theorem enc_length (s : Sp) : s.enc.length = 11 := rfl
instance : DecidableEq Sp := fun a b =>
  if h : a.hi = b.hi ∧ a.lo = b.lo ∧ a.id = b.id ∧ a.up = b.up ∧ a.name = b.name ∧ a.status = b.status ∧ a.seq = b.seq ∧ a.kids = b.kids ∧ a.shadow = b.shadow ∧ a.start = b.start ∧ a.stop = b.stop then
    .isTrue (by obtain ⟨⟩ := a; obtain ⟨⟩ := b; simp_all)
  else .isFalse (by rintro rfl; simp at h)
/-- Its type. -/
def ty : Ty := .cons (.cons (.int .u64) (.cons (.int .u64) .nil)) (.cons (.int .u64) (.cons (.int .u64) (.cons .str (.cons (.int .i64) (.cons (.int .i64) (.cons (.int .i64) (.cons .bool (.cons (.int .i64) (.cons (.int .i64) .nil)))))))))
def I64 (n : Int) : Prop := -9223372036854775808 ≤ n ∧ n ≤ 9223372036854775807
def U64 (n : Nat) : Prop := n < 18446744073709551616
structure Wf (s : Sp) : Prop where
  hi : U64 s.hi
  lo : U64 s.lo
  id : U64 s.id
  up : U64 s.up
  name : s.name.size ≤ 140737488351232
  status : I64 s.status
  seq : I64 s.seq
  kids : I64 s.kids
  start : I64 s.start
  stop : I64 s.stop
theorem rd_u64 {w : World} {B : Nat} {cs : List Value} (h : Rd w B (.int .u64) cs) : ∃ n : Nat, cs = [.int .u64 n] ∧ U64 n := by
  obtain ⟨n, rfl, hw⟩ := h
  have h : IntKind.u64.min ≤ n ∧ n ≤ IntKind.u64.max := by simpa [Lit.wf] using hw
  obtain ⟨h1, h2⟩ : 0 ≤ n ∧ n ≤ 18446744073709551615 := h
  exact ⟨n.toNat, by rw [Int.toNat_of_nonneg h1], by unfold U64; omega⟩
theorem rd_i64 {w : World} {B : Nat} {cs : List Value} (h : Rd w B (.int .i64) cs) : ∃ n : Int, cs = [.int .i64 n] ∧ I64 n := by
  obtain ⟨n, rfl, hw⟩ := h
  have h : IntKind.i64.min ≤ n ∧ n ≤ IntKind.i64.max := by simpa [Lit.wf] using hw
  exact ⟨n, rfl, h⟩
theorem rd_str {w : World} {B : Nat} {cs : List Value} (h : Rd w B .str cs) : ∃ s : ByteArray, cs = [.string s] ∧ s.size ≤ 140737488351232 := by
  obtain ⟨s, rfl, _, h2⟩ := h
  exact ⟨s, rfl, h2⟩
theorem of_rd {w : World} {B : Nat} {cs : List Value} (h : Rd w B ty cs) : ∃ s : Sp, cs = s.enc ∧ Wf s := by
  obtain ⟨_, _, rfl, _, h1, h⟩ := h
  obtain ⟨_, _, rfl, _, a1, h1⟩ := h1
  obtain ⟨_, _, rfl, _, a2, h1⟩ := h1
  obtain ⟨_, _, rfl, _, a3, h⟩ := h
  obtain ⟨_, _, rfl, _, a4, h⟩ := h
  obtain ⟨_, _, rfl, _, a5, h⟩ := h
  obtain ⟨_, _, rfl, _, a6, h⟩ := h
  obtain ⟨_, _, rfl, _, a7, h⟩ := h
  obtain ⟨_, _, rfl, _, a8, h⟩ := h
  obtain ⟨_, _, rfl, _, a9, h⟩ := h
  obtain ⟨_, _, rfl, _, a10, h⟩ := h
  obtain ⟨_, _, rfl, _, a11, h⟩ := h
  obtain ⟨hi, rfl, g1⟩ := rd_u64 a1
  obtain ⟨lo, rfl, g2⟩ := rd_u64 a2
  obtain ⟨id, rfl, g3⟩ := rd_u64 a3
  obtain ⟨up, rfl, g4⟩ := rd_u64 a4
  obtain ⟨name, rfl, g5⟩ := rd_str a5
  obtain ⟨status, rfl, g6⟩ := rd_i64 a6
  obtain ⟨seq, rfl, g7⟩ := rd_i64 a7
  obtain ⟨kids, rfl, g8⟩ := rd_i64 a8
  obtain ⟨shadow, rfl⟩ := a9
  obtain ⟨start, rfl, g10⟩ := rd_i64 a10
  obtain ⟨stop, rfl, g11⟩ := rd_i64 a11
  have e1 : (_ : List Value) = [] := h1
  have e2 : (_ : List Value) = [] := h
  subst e1 e2
  exact ⟨⟨hi, lo, id, up, name, status, seq, kids, shadow, start, stop⟩, rfl, ⟨g1, g2, g3, g4, g5, g6, g7, g8, g10, g11⟩⟩
end Sp
/-- An open span: its number, and the span. -/
structure Opn where
  no : Int
  sp : Sp
namespace Opn
def enc (o : Opn) : List Value := .int .i64 o.no :: o.sp.enc
theorem enc_length (o : Opn) : o.enc.length = 12 := rfl
instance : DecidableEq Opn := fun a b =>
  if h : a.no = b.no ∧ a.sp = b.sp then .isTrue (by obtain ⟨⟩ := a; obtain ⟨⟩ := b; simp_all) else .isFalse (by rintro rfl; simp at h)
def ty : Ty := .cons (.int .i64) (.cons Sp.ty .nil)
structure Wf (o : Opn) : Prop where
  no : Sp.I64 o.no
  sp : o.sp.Wf
theorem of_rd {w : World} {B : Nat} {cs : List Value} (h : Rd w B ty cs) : ∃ o : Opn, cs = o.enc ∧ Wf o := by
  obtain ⟨_, _, rfl, _, a1, h⟩ := h
  obtain ⟨_, _, rfl, _, a2, h⟩ := h
  obtain ⟨n, rfl, g1⟩ := Sp.rd_i64 a1
  obtain ⟨s, rfl, g2⟩ := Sp.of_rd a2
  have e1 : (_ : List Value) = [] := h
  subst e1
  exact ⟨⟨n, s⟩, by simp [enc], ⟨g1, g2⟩⟩
end Opn
end Go.Peri
namespace Go.Peri
open Go.RowKit
theorem span_of_arg {w : World} {B : Nat} {v : Value} (h : Arg w B Sp.ty v) : ∃ s : Sp, v = .agg #[.int .u64 s.hi, .int .u64 s.lo, .int .u64 s.id, .int .u64 s.up, .string s.name, .int .i64 s.status, .int .i64 s.seq, .int .i64 s.kids, .bool s.shadow, .int .i64 s.start, .int .i64 s.stop] ∧ s.Wf := by
  obtain ⟨cs, rfl, h⟩ : ∃ cs, v = .agg cs ∧ Rd w B Sp.ty cs.toList := h
  obtain ⟨s, e, hw⟩ := Sp.of_rd h
  refine ⟨s, ?_, hw⟩
  congr 1
  exact Array.toList_inj.1 e
theorem i64s_two {w : World} {B : Nat} {v : Value} (h : Arg w B (.cons (.int .i64) (.cons (.int .i64) .nil)) v) : ∃ a b : Int, v = .agg #[.int .i64 a, .int .i64 b] ∧ Sp.I64 a ∧ Sp.I64 b := by
  obtain ⟨cs, rfl, c1, c2, e, _, h1, c3, c4, e2, _, h2, h3⟩ := h
  obtain ⟨x, rfl, hx⟩ := Sp.rd_i64 h1
  obtain ⟨y, rfl, hy⟩ := Sp.rd_i64 h2
  have h4 : c4 = [] := h3
  subst h4
  refine ⟨x, y, ?_, hx, hy⟩
  congr 1
  apply Array.toList_inj.1
  rw [e, e2]
  rfl
theorem i64s_three {w : World} {B : Nat} {v : Value} (h : Arg w B (.cons (.int .i64) (.cons (.int .i64) (.cons (.int .i64) .nil))) v) : ∃ a b c : Int, v = .agg #[.int .i64 a, .int .i64 b, .int .i64 c] ∧ Sp.I64 a ∧ Sp.I64 b ∧ Sp.I64 c := by
  obtain ⟨cs, rfl, c1, c2, e, _, h1, c3, c4, e2, _, h2, c5, c6, e3, _, h3, h4⟩ := h
  obtain ⟨x, rfl, hx⟩ := Sp.rd_i64 h1
  obtain ⟨y, rfl, hy⟩ := Sp.rd_i64 h2
  obtain ⟨z, rfl, hz⟩ := Sp.rd_i64 h3
  have h5 : c6 = [] := h4
  subst h5
  refine ⟨x, y, z, ?_, hx, hy, hz⟩
  congr 1
  apply Array.toList_inj.1
  rw [e, e2, e3]
  rfl
theorem opens_of_arg {w : World} {B : Nat} {v : Value} (h : Arg w B (.slice 104 Opn.ty) v) : ∃ l : List Opn, RowsOf (· < B) Opn.enc 12 w v l ∧ l.length * 104 ≤ 140737488351232 := by
  obtain ⟨l, h1, h2, _⟩ := rows_of_arg (enc := Opn.enc) (wf := Opn.Wf) (e := Opn.ty) (fun _ => rfl) (fun cs hc => Opn.of_rd hc) h
  exact ⟨l, h1, h2⟩
theorem int64_of_arg {w : World} {B : Nat} {v : Value} (h : Arg w B (.int .i64) v) : ∃ n : Int, v = .int .i64 n ∧ Sp.I64 n := by
  obtain ⟨n, rfl, hw⟩ := int_of_arg h
  have h : IntKind.i64.min ≤ n ∧ n ≤ IntKind.i64.max := by simpa [Lit.wf] using hw
  exact ⟨n, rfl, h⟩
end Go.Peri
namespace Go.Peri
open Go.RowKit
/-- A predicate. -/
structure Prd where
  kind : Int
  name : ByteArray
  value : ByteArray
namespace Prd
def enc (x : Prd) : List Value := [.int .i64 x.kind, .string x.name, .string x.value]
theorem enc_length (x : Prd) : x.enc.length = 3 := rfl
def ty : Ty := .cons (.int .i64) (.cons .str (.cons .str .nil))
structure Wf (x : Prd) : Prop where
  kind : Sp.I64 x.kind
  name : x.name.size ≤ 140737488351232
  value : x.value.size ≤ 140737488351232
theorem of_rd {w : World} {B : Nat} {cs : List Value} (h : Rd w B ty cs) : ∃ x : Prd, cs = x.enc ∧ Wf x := by
  obtain ⟨_, _, rfl, _, a0, h⟩ := h
  obtain ⟨_, _, rfl, _, a1, h⟩ := h
  obtain ⟨_, _, rfl, _, a2, h⟩ := h
  obtain ⟨k, rfl, g0⟩ := Sp.rd_i64 a0
  obtain ⟨n, rfl, g1⟩ := Hd.rd_str a1
  obtain ⟨v, rfl, g2⟩ := Hd.rd_str a2
  have e1 : (_ : List Value) = [] := h
  subst e1
  exact ⟨⟨k, n, v⟩, rfl, ⟨g0, g1, g2⟩⟩
theorem cells {y : Prd} {w : World} {b o : Nat} (h : ∀ j u, y.enc[j]? = some u → w.cell? ⟨b, o + j, none⟩ = some u) :
    w.cell? ⟨b, o, none⟩ = some (.int .i64 y.kind) ∧ w.cell? ⟨b, o + 1, none⟩ = some (.string y.name) ∧ w.cell? ⟨b, o + 2, none⟩ = some (.string y.value) := ⟨h 0 _ rfl, h 1 _ rfl, h 2 _ rfl⟩
theorem one (l : List Prd) : ∀ u ∈ l.flatMap Prd.enc, u.oneCell' = true := by
  intro u hu
  obtain ⟨o, _, ho⟩ := List.mem_flatMap.1 hu
  simp only [Prd.enc, List.mem_cons, List.not_mem_nil, or_false] at ho
  rcases ho with rfl | rfl | rfl <;> rfl
def fewB (x : Prd) : Bool := decide (x.name.size + x.value.size ≤ 400)
def few (l : List Prd) : Bool := decide (l.length ≤ 20) && l.all fewB
theorem few_len {l : List Prd} (h : few l = true) : l.length ≤ 20 := by
  unfold few at h
  rw [Bool.and_eq_true] at h
  exact of_decide_eq_true h.1
theorem few_mem {l : List Prd} (h : few l = true) : ∀ x ∈ l, x.name.size + x.value.size ≤ 400 := by
  unfold few at h
  rw [Bool.and_eq_true, List.all_eq_true] at h
  exact fun x hx => of_decide_eq_true (h.2 x hx)
end Prd
namespace Hd
def few40 (l : List Hd) : Bool := decide (l.length ≤ 40) && l.all (fun h => decide (h.name.size + h.value.size ≤ 400))
end Hd
theorem preds_of_arg {w : World} {B : Nat} {v : Value} (h : Arg w B (.slice 40 Prd.ty) v) : ∃ l : List Prd, RowsOf (· < B) Prd.enc 3 w v l ∧ l.length * 40 ≤ 140737488351232 ∧ (∀ x ∈ l, x.Wf) := by
  obtain ⟨l, h1, h2, h3⟩ := rows_of_arg (enc := Prd.enc) (wf := Prd.Wf) (e := Prd.ty) (fun _ => rfl) (fun cs hc => Prd.of_rd hc) h
  exact ⟨l, h1, h2, h3⟩
theorem pred_of_arg {w : World} {B : Nat} {v : Value} (h : Arg w B Prd.ty v) : ∃ x : Prd, v = .agg #[.int .i64 x.kind, .string x.name, .string x.value] ∧ x.Wf := by
  obtain ⟨cs, rfl, h⟩ : ∃ cs, v = .agg cs ∧ Rd w B Prd.ty cs.toList := h
  obtain ⟨s, e, hw⟩ := Prd.of_rd h
  refine ⟨s, ?_, hw⟩
  congr 1
  exact Array.toList_inj.1 e
/-- A request's texts, and its headers. -/
def reqTy : Ty := .cons .str (.cons .str (.cons .str (.cons (.slice 32 Hd.ty) (.cons .str .nil))))
structure ReqV (w : World) (B : Nat) (m h p b : ByteArray) (l : List Hd) (a : Option Addr) (cap : Nat) : Prop where
  rows : RowsOf (· < B) Hd.enc 2 w (.slice a l.length cap) l
  len : l.length * 32 ≤ 140737488351232
  wf : ∀ x ∈ l, x.Wf
  m : m.size ≤ 140737488351232
  h : h.size ≤ 140737488351232
  p : p.size ≤ 140737488351232
  b : b.size ≤ 140737488351232
theorem req_of_rd {w : World} {B : Nat} {cs : List Value} (h : Rd w B reqTy cs) : ∃ (m h p b : ByteArray) (l : List Hd) (a : Option Addr) (cap : Nat), cs = [.string m, .string h, .string p, .slice a l.length cap, .string b] ∧ ReqV w B m h p b l a cap := by
  obtain ⟨_, _, rfl, _, a0, h⟩ := h
  obtain ⟨_, _, rfl, _, a1, h⟩ := h
  obtain ⟨_, _, rfl, _, a2, h⟩ := h
  obtain ⟨c3, _, rfl, hl3, a3, h⟩ := h
  obtain ⟨_, _, rfl, _, a4, h⟩ := h
  obtain ⟨m, rfl, g0⟩ := Hd.rd_str a0
  obtain ⟨hh, rfl, g1⟩ := Hd.rd_str a1
  obtain ⟨p, rfl, g2⟩ := Hd.rd_str a2
  obtain ⟨b, rfl, g4⟩ := Hd.rd_str a4
  have e1 : (_ : List Value) = [] := h
  subst e1
  obtain ⟨v3, rfl⟩ : ∃ v, c3 = [v] := by
    match c3, hl3 with
    | [v], _ => exact ⟨v, rfl⟩
  obtain ⟨l, k1, k2, k3⟩ := heads_of_arg (v := v3) a3
  obtain ⟨a, cap, rfl⟩ : ∃ a cap, v3 = .slice a l.length cap := by
    obtain ⟨a, cap, e, _⟩ := k1
    exact ⟨a, cap, e⟩
  exact ⟨m, hh, p, b, l, a, cap, rfl, ⟨k1, k2, k3, g0, g1, g2, g4⟩⟩
theorem req_of_arg {w : World} {B : Nat} {v : Value} (h : Arg w B reqTy v) : ∃ (m h p b : ByteArray) (l : List Hd) (a : Option Addr) (cap : Nat), v = .agg #[.string m, .string h, .string p, .slice a l.length cap, .string b] ∧ ReqV w B m h p b l a cap := by
  obtain ⟨cs, rfl, h⟩ : ∃ cs, v = .agg cs ∧ Rd w B reqTy cs.toList := h
  obtain ⟨m, hh, p, b, l, a, cap, e, hw⟩ := req_of_rd h
  refine ⟨m, hh, p, b, l, a, cap, ?_, hw⟩
  congr 1
  exact Array.toList_inj.1 e
end Go.Peri
namespace Go.Proofs.Ytmmmaldpalhjeaa
open Go.RowKit Go.Peri
namespace C11
def allR (m h p : ByteArray) (hs : List Hd) (l : List Prd) : Bool := l.all (fun x => matchR x.kind x.name x.value m h p hs)
set_option maxRecDepth 100000 in
set_option maxHeartbeats 1000000 in
theorem all_any {pp qq : Nat → Prop} (v : Value) (l : List Prd) (m h p b : ByteArray) (hs : List Hd) (a0 : Option Addr) (cap0 : Nat) (r : Bool) (W : World) (hl : RowsOf qq Prd.enc 3 W v l) (hq : ∀ b, qq b → b < W.heap.size) (hhs : RowsOf pp Hd.enc 2 W (.slice a0 hs.length cap0) hs) (hp : ∀ b, pp b → b < W.heap.size) (hn : hs.length ≤ 1000000) (hlen : l.length ≤ 1000000000) (hr : allR m h p hs l = r) :
    Calls Try.prog 106 #[v, .agg #[.string m, .string h, .string p, .slice a0 hs.length cap0, .string b]] W fun e w' => e = .returned (.bool r) ∧ Below W.heap.size W w' := by
  have HM := hid (fun (k : Int) (n v : ByteArray) (r : Bool) (hr : matchR k n v m h p hs = r) w' (hw : Below W.heap.size W w') => pmatch_any k n v m h p b hs (.slice a0 hs.length cap0) r w' (hhs.below hw hp) (fun b hb => Nat.lt_of_lt_of_le (hp b hb) hw.size) hn hr)
  obtain ⟨a, cap, rfl, hlc, hcm, _, hcell⟩ := hl
  have HC := hid hcell
  have HP := hid hq
  have HR := hid hr
  have HZ := hid (Blk.new W #[.string m, .string h, .string p, .slice a0 hs.length cap0, .string b] 67)
  have HB0 : Hid (Below W.heap.size W (W.alloc (.cells #[.string m, .string h, .string p, .slice a0 hs.length cap0, .string b] 67))) := by show Below _ _ _; go_grown
  have HS0 : Hid ((W.alloc (.cells #[.string m, .string h, .string p, .slice a0 hs.length cap0, .string b] 67)).heap.size = W.heap.size + 1) := hid (by simp)
  clear hcell hq hr hhs hp
  go_enter Try.func106, Try.ntmps106
  go_wp2_with fail
  go_loopw [9] (fun i wr => ∃ k : Nat, k ≤ l.length ∧ i = .int .i64 k ∧ Below (W.alloc (.cells #[.string m, .string h, .string p, .slice a0 hs.length cap0, .string b] 67)).heap.size (W.alloc (.cells #[.string m, .string h, .string p, .slice a0 hs.length cap0, .string b] 67)) wr ∧ ∀ j (_ : j < k) (hj : j < l.length), matchR l[j].kind l[j].name l[j].value m h p hs = true) (fun i _ => l.length - (intOf i).toNat)
  case atStart => exact ⟨0, Nat.zero_le _, rfl, Below.refl _ _, fun j hj => absurd hj (Nat.not_lt_zero _)⟩
  case round =>
    obtain ⟨k, hk, rfl, hb, hno⟩ := hrel
    have hz := HZ.out.later hb
    have q0 : wr.cell? ⟨W.heap.size, 0, none⟩ = some (.string m) := hz.cell 0
    have q1 : wr.cell? ⟨W.heap.size, 1, none⟩ = some (.string h) := hz.cell 1
    have q2 : wr.cell? ⟨W.heap.size, 2, none⟩ = some (.string p) := hz.cell 2
    have q3 : wr.cell? ⟨W.heap.size, 3, none⟩ = some (.slice a0 hs.length cap0) := hz.cell 3
    have q4 : wr.cell? ⟨W.heap.size, 4, none⟩ = some (.string b) := hz.cell 4
    have hlt0 := hz.lt
    have HB := hid (HB0.out.trans (hb.mono HB0.out.size))
    have HQ : Hid (Below (W.alloc (.cells #[.string m, .string h, .string p, .slice a0 hs.length cap0, .string b] 67)).heap.size (W.alloc (.cells #[.string m, .string h, .string p, .slice a0 hs.length cap0, .string b] 67)) wr) := hid hb
    have HN := hid hno
    clear hb hno hz
    by_cases hlt : k < l.length
    · obtain ⟨bb, off, rfl, hpb, hc⟩ := HC.out.resolve_left (by intro e; rw [e] at hlt; simp at hlt)
      have hbl0 := HP.out bb hpb
      have hbl : bb < wr.heap.size := Nat.lt_of_lt_of_le hbl0 HB.out.size
      obtain ⟨c0, c1, c2⟩ := Prd.cells (fun j u hu => (HB.out.cell (p := ⟨bb, off + k * 3 + j, none⟩) hbl0).trans (hc k hlt j u hu))
      obtain ⟨bq, hbq⟩ : ∃ bq, matchR l[k].kind l[k].name l[k].value m h p hs = bq := ⟨_, rfl⟩
      have HMk := hid (fun w' (hw : Below wr.heap.size wr w') => HM.out _ _ _ _ hbq w' (HB.out.trans (hw.mono HB.out.size)))
      have HNext : Hid (bq = true → ∀ j (_ : j < k + 1) (hj : j < l.length), matchR l[j].kind l[j].name l[j].value m h p hs = true) := by
        intro e j hj hjl
        by_cases e2 : j = k
        · subst e2; rw [e] at hbq; exact hbq
        · exact HN.out j (by omega) hjl
      have HHit : Hid (bq = false → r = false) := fun e => by
        rw [e] at hbq
        rw [← HR.out]
        unfold allR
        rw [List.all_eq_false]
        exact ⟨l[k], List.getElem_mem hlt, by rw [hbq]; simp⟩
      clear hc hbq
      generalize l[k] = y at c0 c1 c2 HMk
      obtain ⟨yk, yn, yv⟩ := y
      dsimp only at c0 c1 c2 HMk
      have HSZ : Hid (wr.heap.size ≤ wr.heap.size) := hid (Nat.le_refl _)
      cases bq
      · go_wp2_with fail
        refine (HMk.out _ (by go_grown)).mono ?_
        rintro e w1 ⟨rfl, hb1⟩
        have hbw : Below wr.heap.size wr w1 := Below.trans (by go_grown) (hb1.mono (by simp))
        have HB1 := hid (HB.out.trans (hbw.mono HB.out.size))
        clear hb1 hbw
        go_wp2_with fail
        go_ret
        exact ⟨by rw [HHit.out (by simp)]; rfl, HB1.out⟩
      · go_wp2_with fail
        refine (HMk.out _ (by go_grown)).mono ?_
        rintro e w1 ⟨rfl, hb1⟩
        have hbw : Below wr.heap.size wr w1 := Below.trans (by go_grown) (hb1.mono (by simp))
        have HQ1 := hid (HQ.out.trans (hbw.mono HQ.out.size))
        have HB1 := hid (HB.out.trans (hbw.mono HB.out.size))
        clear hb1 hbw
        go_wp2_with fail
        go_roundw
        case rel => exact ⟨k + 1, by omega, by go_num, HQ1.out, HNext.out (by simp)⟩
        case measure => simp [intOf]; omega
    · obtain rfl : k = l.length := by omega
      have hd : Hid (r = true) := hid (by
        rw [← HR.out]
        unfold allR
        rw [List.all_eq_true]
        intro x hx
        obtain ⟨i, hi, rfl⟩ := List.getElem_of_mem hx
        exact HN.out i hi hi)
      go_wp2_with fail
      go_ret
      exact ⟨by rw [hd.out]; rfl, HB.out⟩
set_option maxRecDepth 100000 in
set_option maxHeartbeats 1000000 in
theorem rall_any {pp qq : Nat → Prop} (v : Value) (l : List Prd) (m h p b : ByteArray) (hs : List Hd) (a0 : Option Addr) (cap0 : Nat) (r : Bool) (W : World) (hl : RowsOf qq Prd.enc 3 W v l) (hq : ∀ b, qq b → b < W.heap.size) (hhs : RowsOf pp Hd.enc 2 W (.slice a0 hs.length cap0) hs) (hp : ∀ b, pp b → b < W.heap.size) (hn : hs.length ≤ 1000000) (hlen : l.length ≤ 1000000000) (hr : allR m h p hs l = r) :
    Calls Try.prog 107 #[v, .agg #[.string m, .string h, .string p, .slice a0 hs.length cap0, .string b]] W fun e w' => e = .returned (.bool r) ∧ Below W.heap.size W w' := by
  have HM := hid (fun (k : Int) (n v : ByteArray) (r : Bool) (hr : matchR k n v m h p hs = r) w' (hw : Below W.heap.size W w') => rmatch_any k n v m h p b hs (.slice a0 hs.length cap0) r w' (hhs.below hw hp) (fun b hb => Nat.lt_of_lt_of_le (hp b hb) hw.size) hn hr)
  obtain ⟨a, cap, rfl, hlc, hcm, _, hcell⟩ := hl
  have HC := hid hcell
  have HP := hid hq
  have HR := hid hr
  have HZ := hid (Blk.new W #[.string m, .string h, .string p, .slice a0 hs.length cap0, .string b] 67)
  have HB0 : Hid (Below W.heap.size W (W.alloc (.cells #[.string m, .string h, .string p, .slice a0 hs.length cap0, .string b] 67))) := by show Below _ _ _; go_grown
  have HS0 : Hid ((W.alloc (.cells #[.string m, .string h, .string p, .slice a0 hs.length cap0, .string b] 67)).heap.size = W.heap.size + 1) := hid (by simp)
  clear hcell hq hr hhs hp
  go_enter Try.func107, Try.ntmps107
  go_wp2_with fail
  go_loopw [5] (fun i wr => ∃ k : Nat, k ≤ l.length ∧ i = .int .i64 k ∧ Below (W.alloc (.cells #[.string m, .string h, .string p, .slice a0 hs.length cap0, .string b] 67)).heap.size (W.alloc (.cells #[.string m, .string h, .string p, .slice a0 hs.length cap0, .string b] 67)) wr ∧ ∀ j (_ : j < k) (hj : j < l.length), matchR l[j].kind l[j].name l[j].value m h p hs = true) (fun i _ => l.length - (intOf i).toNat)
  case atStart => exact ⟨0, Nat.zero_le _, rfl, Below.refl _ _, fun j hj => absurd hj (Nat.not_lt_zero _)⟩
  case round =>
    obtain ⟨k, hk, rfl, hb, hno⟩ := hrel
    have hz := HZ.out.later hb
    have q0 : wr.cell? ⟨W.heap.size, 0, none⟩ = some (.string m) := hz.cell 0
    have q1 : wr.cell? ⟨W.heap.size, 1, none⟩ = some (.string h) := hz.cell 1
    have q2 : wr.cell? ⟨W.heap.size, 2, none⟩ = some (.string p) := hz.cell 2
    have q3 : wr.cell? ⟨W.heap.size, 3, none⟩ = some (.slice a0 hs.length cap0) := hz.cell 3
    have q4 : wr.cell? ⟨W.heap.size, 4, none⟩ = some (.string b) := hz.cell 4
    have hlt0 := hz.lt
    have HB := hid (HB0.out.trans (hb.mono HB0.out.size))
    have HQ : Hid (Below (W.alloc (.cells #[.string m, .string h, .string p, .slice a0 hs.length cap0, .string b] 67)).heap.size (W.alloc (.cells #[.string m, .string h, .string p, .slice a0 hs.length cap0, .string b] 67)) wr) := hid hb
    have HN := hid hno
    clear hb hno hz
    by_cases hlt : k < l.length
    · obtain ⟨bb, off, rfl, hpb, hc⟩ := HC.out.resolve_left (by intro e; rw [e] at hlt; simp at hlt)
      have hbl0 := HP.out bb hpb
      have hbl : bb < wr.heap.size := Nat.lt_of_lt_of_le hbl0 HB.out.size
      obtain ⟨c0, c1, c2⟩ := Prd.cells (fun j u hu => (HB.out.cell (p := ⟨bb, off + k * 3 + j, none⟩) hbl0).trans (hc k hlt j u hu))
      obtain ⟨bq, hbq⟩ : ∃ bq, matchR l[k].kind l[k].name l[k].value m h p hs = bq := ⟨_, rfl⟩
      have HMk := hid (fun w' (hw : Below wr.heap.size wr w') => HM.out _ _ _ _ hbq w' (HB.out.trans (hw.mono HB.out.size)))
      have HNext : Hid (bq = true → ∀ j (_ : j < k + 1) (hj : j < l.length), matchR l[j].kind l[j].name l[j].value m h p hs = true) := by
        intro e j hj hjl
        by_cases e2 : j = k
        · subst e2; rw [e] at hbq; exact hbq
        · exact HN.out j (by omega) hjl
      have HHit : Hid (bq = false → r = false) := fun e => by
        rw [e] at hbq
        rw [← HR.out]
        unfold allR
        rw [List.all_eq_false]
        exact ⟨l[k], List.getElem_mem hlt, by rw [hbq]; simp⟩
      clear hc hbq
      generalize l[k] = y at c0 c1 c2 HMk
      obtain ⟨yk, yn, yv⟩ := y
      dsimp only at c0 c1 c2 HMk
      have HSZ : Hid (wr.heap.size ≤ wr.heap.size) := hid (Nat.le_refl _)
      cases bq
      · have HMx : Hid (∀ x : BW wr, Calls Try.prog 159 #[.agg #[.int .i64 yk, .string yn, .string yv], .agg #[.string m, .string h, .string p, .slice a0 hs.length cap0, .string b]] x.val fun e w' => e = .returned (.bool false) ∧ Below x.val.heap.size x.val w') := hid (fun x => HMk.out _ x.prop)
        go_wp2_with fail
        refine wp_region_bw (by kernel_rfl) (by kernel_rfl) ?_
        repeat (go_big_quiet_step ((go_at_call 159; exact bw_call (HMx.out _))))
        refine wpQuiet_nil ?_
        rintro w2 ⟨⟨_, hbw⟩, rfl⟩
        have HB1 := hid (HB.out.trans (hbw.mono HB.out.size))
        have HS2 : Hid (wr.heap.size ≤ w2.heap.size) := hid hbw.size
        clear hbw
        go_wp2_with fail
        go_ret
        exact ⟨by rw [HHit.out (by simp)]; rfl, HB1.out⟩
      · have HMx : Hid (∀ x : BW wr, Calls Try.prog 159 #[.agg #[.int .i64 yk, .string yn, .string yv], .agg #[.string m, .string h, .string p, .slice a0 hs.length cap0, .string b]] x.val fun e w' => e = .returned (.bool true) ∧ Below x.val.heap.size x.val w') := hid (fun x => HMk.out _ x.prop)
        go_wp2_with fail
        refine wp_region_bw (by kernel_rfl) (by kernel_rfl) ?_
        repeat (go_big_quiet_step ((go_at_call 159; exact bw_call (HMx.out _))))
        refine wpQuiet_nil ?_
        rintro w2 ⟨⟨_, hbw⟩, rfl⟩
        have HQ1 := hid (HQ.out.trans (hbw.mono HQ.out.size))
        have HB1 := hid (HB.out.trans (hbw.mono HB.out.size))
        have HS2 : Hid (wr.heap.size ≤ w2.heap.size) := hid hbw.size
        clear hbw
        go_wp2_with fail
        go_roundw
        case rel => exact ⟨k + 1, by omega, by go_num, HQ1.out, HNext.out (by simp)⟩
        case measure => simp [intOf]; omega
    · obtain rfl : k = l.length := by omega
      have hd : Hid (r = true) := hid (by
        rw [← HR.out]
        unfold allR
        rw [List.all_eq_true]
        intro x hx
        obtain ⟨i, hi, rfl⟩ := List.getElem_of_mem hx
        exact HN.out i hi hi)
      go_wp2_with fail
      go_ret
      exact ⟨by rw [hd.out]; rfl, HB.out⟩
end C11
end Go.Proofs.Ytmmmaldpalhjeaa
