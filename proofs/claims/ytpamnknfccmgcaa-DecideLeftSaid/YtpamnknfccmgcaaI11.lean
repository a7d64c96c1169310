/- Walks of layer 11 (pred): whether a predicate of a kind without a name may be; no condition. -/
import Derived.Test.YtpamnknfccmgcaaH11
namespace Go.Proofs.Ytpamnknfccmgcaa
open Go.RowKit Go.Peri
namespace C11
/-- A text that is not empty: as the walk asks it. -/
structure Full (s : ByteArray) : Prop where
  t1 : s.toList.isEmpty = false
  t2 : (!s.toList.isEmpty) = true
  t3 : ¬ s.toList = []
theorem full_of (s : ByteArray) (h0 : s.size ≠ 0) : Full s := by
  have t1 : s.toList.isEmpty = false := by
    rw [Bool.eq_false_iff]; intro h
    apply h0
    rw [List.isEmpty_iff, ByteArray.toList_eq] at h
    have := congrArg List.length h
    simpa using this
  exact ⟨t1, by rw [t1]; rfl, by rw [← List.isEmpty_iff, t1]; simp⟩
theorem none_of (s : ByteArray) (h0 : s.size = 0) : s = ByteArray.empty := ByteArray.ext (Array.eq_empty_of_size_eq_zero h0)
set_option maxRecDepth 100000 in
set_option maxHeartbeats 1000000 in
theorem pcheck1 (n v : ByteArray) (r : Int) (W : World) (hv : v.size ≤ 1000000000000000) (hr : (if n.size ≠ 0 then 2 else if methodOk v = true then 0 else 3) = r) :
    Calls Try.prog 57 #[.agg #[.int .i64 1, .string n, .string v]] W fun e w' => e = .returned (.int .i64 r) ∧ Below W.heap.size W w' := by
  have HO : Hid (∀ w, Calls Try.prog 143 #[.int .i64 1] w fun e w' => ∃ a b c d : Nat, e = .returned (.tuple #[.agg #[.bool false, .bool true, .func (.func 215) #[] #[], .func (.func 218) #[] #[]], .bool true]) ∧ Below w.heap.size w w' ∧ Hid (KindsAt w' a b c d)) := hid (fun w => of1 w)
  have HC := hid (fun w => kmethod_any v w hv)
  have HZ := hid (Blk.new W #[.int .i64 1, .string n, .string v] 54)
  have HB0 : Hid (Below W.heap.size W (W.alloc (.cells #[.int .i64 1, .string n, .string v] 54))) := by show Below _ _ _; go_grown
  by_cases h0 : n.size ≠ 0
  · rw [if_pos h0] at hr
    have hf := full_of n h0
    have t1 := hf.t1
    have t2 := hf.t2
    have t3 := hf.t3
    have HR := hid hr
    clear hf hr h0
    go_enter Try.func57, Try.ntmps57
    go_wp2_with fail
    refine (HO.out _).mono ?_
    rintro e w1 ⟨a, b, c, d, rfl, hb1, hka⟩
    have hk := HZ.out.later hb1
    have d0 : w1.cell? ⟨W.heap.size, 0, none⟩ = some (.int .i64 1) := hk.cell 0
    have d1 : w1.cell? ⟨W.heap.size, 1, none⟩ = some (.string n) := hk.cell 1
    have d2 : w1.cell? ⟨W.heap.size, 2, none⟩ = some (.string v) := hk.cell 2
    have hlt := hk.lt
    have HB1 := hid (HB0.out.trans (hb1.mono (by simp)))
    have HN1 : Hid (Below W.heap.size W (w1.alloc (.cells #[.bool false, .bool true, .func (.func 215) #[] #[], .func (.func 218) #[] #[]] 154))) := hid (HB1.out.trans (by have := HB1.out.size; go_grown; all_goals omega))
    clear hb1 hk hka
    go_wp2_with fail
    go_ret
    exact ⟨by rw [← HR.out]; rfl, HN1.out⟩
  · rw [if_neg h0] at hr
    obtain rfl := none_of n (by omega)
    rw [hr] at HC
    clear hr h0
    go_enter Try.func57, Try.ntmps57
    go_wp2_with fail
    refine (HO.out _).mono ?_
    rintro e w1 ⟨a, b, c, d, rfl, hb1, hka⟩
    have hk := HZ.out.later hb1
    have d0 : w1.cell? ⟨W.heap.size, 0, none⟩ = some (.int .i64 1) := hk.cell 0
    have d1 : w1.cell? ⟨W.heap.size, 1, none⟩ = some (.string ByteArray.empty) := hk.cell 1
    have d2 : w1.cell? ⟨W.heap.size, 2, none⟩ = some (.string v) := hk.cell 2
    have hlt := hk.lt
    have HB1 := hid (HB0.out.trans (hb1.mono (by simp)))
    have HN1 : Hid (Below W.heap.size W (w1.alloc (.cells #[.bool false, .bool true, .func (.func 215) #[] #[], .func (.func 218) #[] #[]] 154))) := hid (HB1.out.trans (by have := HB1.out.size; go_grown; all_goals omega))
    clear hb1 hk hka
    go_wp2_with fail
    refine (HC.out _).mono ?_
    rintro e w2 ⟨rfl, hb2⟩
    have HB2 := hid (HN1.out.trans (hb2.mono HN1.out.size))
    clear hb2
    go_wp2_with fail
    go_ret
    exact ⟨rfl, HB2.out⟩
set_option maxRecDepth 100000 in
set_option maxHeartbeats 1000000 in
theorem pcheck3 (n v : ByteArray) (r : Int) (W : World) (hv : v.size ≤ 1000000000000000) (hr : (if n.size ≠ 0 then 2 else if pathOk v = true then 0 else 12) = r) :
    Calls Try.prog 57 #[.agg #[.int .i64 3, .string n, .string v]] W fun e w' => e = .returned (.int .i64 r) ∧ Below W.heap.size W w' := by
  have HO : Hid (∀ w, Calls Try.prog 143 #[.int .i64 3] w fun e w' => ∃ a b c d : Nat, e = .returned (.tuple #[.agg #[.bool false, .bool true, .func (.func 217) #[] #[], .func (.func 221) #[] #[]], .bool true]) ∧ Below w.heap.size w w' ∧ Hid (KindsAt w' a b c d)) := hid (fun w => of3 w)
  have HC := hid (fun w => kpath_any v w hv)
  have HZ := hid (Blk.new W #[.int .i64 3, .string n, .string v] 54)
  have HB0 : Hid (Below W.heap.size W (W.alloc (.cells #[.int .i64 3, .string n, .string v] 54))) := by show Below _ _ _; go_grown
  by_cases h0 : n.size ≠ 0
  · rw [if_pos h0] at hr
    have hf := full_of n h0
    have t1 := hf.t1
    have t2 := hf.t2
    have t3 := hf.t3
    have HR := hid hr
    clear hf hr h0
    go_enter Try.func57, Try.ntmps57
    go_wp2_with fail
    refine (HO.out _).mono ?_
    rintro e w1 ⟨a, b, c, d, rfl, hb1, hka⟩
    have hk := HZ.out.later hb1
    have d0 : w1.cell? ⟨W.heap.size, 0, none⟩ = some (.int .i64 3) := hk.cell 0
    have d1 : w1.cell? ⟨W.heap.size, 1, none⟩ = some (.string n) := hk.cell 1
    have d2 : w1.cell? ⟨W.heap.size, 2, none⟩ = some (.string v) := hk.cell 2
    have hlt := hk.lt
    have HB1 := hid (HB0.out.trans (hb1.mono (by simp)))
    have HN1 : Hid (Below W.heap.size W (w1.alloc (.cells #[.bool false, .bool true, .func (.func 217) #[] #[], .func (.func 221) #[] #[]] 154))) := hid (HB1.out.trans (by have := HB1.out.size; go_grown; all_goals omega))
    clear hb1 hk hka
    go_wp2_with fail
    go_ret
    exact ⟨by rw [← HR.out]; rfl, HN1.out⟩
  · rw [if_neg h0] at hr
    obtain rfl := none_of n (by omega)
    rw [hr] at HC
    clear hr h0
    go_enter Try.func57, Try.ntmps57
    go_wp2_with fail
    refine (HO.out _).mono ?_
    rintro e w1 ⟨a, b, c, d, rfl, hb1, hka⟩
    have hk := HZ.out.later hb1
    have d0 : w1.cell? ⟨W.heap.size, 0, none⟩ = some (.int .i64 3) := hk.cell 0
    have d1 : w1.cell? ⟨W.heap.size, 1, none⟩ = some (.string ByteArray.empty) := hk.cell 1
    have d2 : w1.cell? ⟨W.heap.size, 2, none⟩ = some (.string v) := hk.cell 2
    have hlt := hk.lt
    have HB1 := hid (HB0.out.trans (hb1.mono (by simp)))
    have HN1 : Hid (Below W.heap.size W (w1.alloc (.cells #[.bool false, .bool true, .func (.func 217) #[] #[], .func (.func 221) #[] #[]] 154))) := hid (HB1.out.trans (by have := HB1.out.size; go_grown; all_goals omega))
    clear hb1 hk hka
    go_wp2_with fail
    refine (HC.out _).mono ?_
    rintro e w2 ⟨rfl, hb2⟩
    have HB2 := hid (HN1.out.trans (hb2.mono HN1.out.size))
    clear hb2
    go_wp2_with fail
    go_ret
    exact ⟨rfl, HB2.out⟩
set_option maxRecDepth 100000 in
set_option maxHeartbeats 1000000 in
theorem pcheck4 (n v : ByteArray) (r : Int) (W : World) (hv : v.size ≤ 1000000000000000) (hr : (if n.size ≠ 0 then 2 else if pathOk v = true then 0 else 12) = r) :
    Calls Try.prog 57 #[.agg #[.int .i64 4, .string n, .string v]] W fun e w' => e = .returned (.int .i64 r) ∧ Below W.heap.size W w' := by
  have HO : Hid (∀ w, Calls Try.prog 143 #[.int .i64 4] w fun e w' => ∃ a b c d : Nat, e = .returned (.tuple #[.agg #[.bool false, .bool true, .func (.func 217) #[] #[], .func (.func 222) #[] #[]], .bool true]) ∧ Below w.heap.size w w' ∧ Hid (KindsAt w' a b c d)) := hid (fun w => of4 w)
  have HC := hid (fun w => kpath_any v w hv)
  have HZ := hid (Blk.new W #[.int .i64 4, .string n, .string v] 54)
  have HB0 : Hid (Below W.heap.size W (W.alloc (.cells #[.int .i64 4, .string n, .string v] 54))) := by show Below _ _ _; go_grown
  by_cases h0 : n.size ≠ 0
  · rw [if_pos h0] at hr
    have hf := full_of n h0
    have t1 := hf.t1
    have t2 := hf.t2
    have t3 := hf.t3
    have HR := hid hr
    clear hf hr h0
    go_enter Try.func57, Try.ntmps57
    go_wp2_with fail
    refine (HO.out _).mono ?_
    rintro e w1 ⟨a, b, c, d, rfl, hb1, hka⟩
    have hk := HZ.out.later hb1
    have d0 : w1.cell? ⟨W.heap.size, 0, none⟩ = some (.int .i64 4) := hk.cell 0
    have d1 : w1.cell? ⟨W.heap.size, 1, none⟩ = some (.string n) := hk.cell 1
    have d2 : w1.cell? ⟨W.heap.size, 2, none⟩ = some (.string v) := hk.cell 2
    have hlt := hk.lt
    have HB1 := hid (HB0.out.trans (hb1.mono (by simp)))
    have HN1 : Hid (Below W.heap.size W (w1.alloc (.cells #[.bool false, .bool true, .func (.func 217) #[] #[], .func (.func 222) #[] #[]] 154))) := hid (HB1.out.trans (by have := HB1.out.size; go_grown; all_goals omega))
    clear hb1 hk hka
    go_wp2_with fail
    go_ret
    exact ⟨by rw [← HR.out]; rfl, HN1.out⟩
  · rw [if_neg h0] at hr
    obtain rfl := none_of n (by omega)
    rw [hr] at HC
    clear hr h0
    go_enter Try.func57, Try.ntmps57
    go_wp2_with fail
    refine (HO.out _).mono ?_
    rintro e w1 ⟨a, b, c, d, rfl, hb1, hka⟩
    have hk := HZ.out.later hb1
    have d0 : w1.cell? ⟨W.heap.size, 0, none⟩ = some (.int .i64 4) := hk.cell 0
    have d1 : w1.cell? ⟨W.heap.size, 1, none⟩ = some (.string ByteArray.empty) := hk.cell 1
    have d2 : w1.cell? ⟨W.heap.size, 2, none⟩ = some (.string v) := hk.cell 2
    have hlt := hk.lt
    have HB1 := hid (HB0.out.trans (hb1.mono (by simp)))
    have HN1 : Hid (Below W.heap.size W (w1.alloc (.cells #[.bool false, .bool true, .func (.func 217) #[] #[], .func (.func 222) #[] #[]] 154))) := hid (HB1.out.trans (by have := HB1.out.size; go_grown; all_goals omega))
    clear hb1 hk hka
    go_wp2_with fail
    refine (HC.out _).mono ?_
    rintro e w2 ⟨rfl, hb2⟩
    have HB2 := hid (HN1.out.trans (hb2.mono HN1.out.size))
    clear hb2
    go_wp2_with fail
    go_ret
    exact ⟨rfl, HB2.out⟩
end C11
end Go.Proofs.Ytpamnknfccmgcaa
