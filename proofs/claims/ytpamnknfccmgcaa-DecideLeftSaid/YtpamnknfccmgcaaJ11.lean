/- Walks of layer 11 (pred): whether a predicate of kinds 2, 5, 6 may be; no condition. -/
import Derived.Test.YtpamnknfccmgcaaI11
namespace Go.Proofs.Ytpamnknfccmgcaa
open Go.RowKit Go.Peri
namespace C11
set_option maxRecDepth 100000 in
theorem khas_any (s : ByteArray) (W : World) : Calls Try.prog 225 #[.string s] W fun e w' => e = .returned (.int .i64 0) ∧ W = w' := by
  go_enter Try.func225, Try.ntmps225
  go_wp2_with fail
  go_ret
  exact ⟨rfl, rfl⟩
set_option maxRecDepth 100000 in
set_option maxHeartbeats 1000000 in
theorem pcheck2 (n v : ByteArray) (r : Int) (W : World) (hv : v.size ≤ 1000000000000000) (hr : (if n.size ≠ 0 then 2 else if Hd.nameOk v = true then 0 else 7) = r) :
    Calls Try.prog 57 #[.agg #[.int .i64 2, .string n, .string v]] W fun e w' => e = .returned (.int .i64 r) ∧ Below W.heap.size W w' := by
  have HO : Hid (∀ w, Calls Try.prog 143 #[.int .i64 2] w fun e w' => ∃ a b c d : Nat, e = .returned (.tuple #[.agg #[.bool false, .bool true, .func (.func 234) #[] #[.pointer (some ⟨a, 0, none⟩), .pointer (some ⟨b, 0, none⟩)], .func (.func 220) #[] #[]], .bool true]) ∧ Below w.heap.size w w' ∧ Hid (KindsAt w' a b c d)) := hid (fun w => of2 w)
  have HZ := hid (Blk.new W #[.int .i64 2, .string n, .string v] 54)
  have HB0 : Hid (Below W.heap.size W (W.alloc (.cells #[.int .i64 2, .string n, .string v] 54))) := by show Below _ _ _; go_grown
  by_cases h0 : n.size ≠ 0
  · rw [if_pos h0] at hr
    have hf := full_of n h0
    have t1 := hf.t1
    have t2 := hf.t2
    have t3 := hf.t3
    subst hr
    clear hf h0
    go_enter Try.func57, Try.ntmps57
    go_wp2_with fail
    refine (HO.out _).mono ?_
    rintro e w1 ⟨a, b, c, d, rfl, hb1, hka⟩
    have hk := HZ.out.later hb1
    have d0 : w1.cell? ⟨W.heap.size, 0, none⟩ = some (.int .i64 2) := hk.cell 0
    have d1 : w1.cell? ⟨W.heap.size, 1, none⟩ = some (.string n) := hk.cell 1
    have d2 : w1.cell? ⟨W.heap.size, 2, none⟩ = some (.string v) := hk.cell 2
    have hlt := hk.lt
    have HB1 := hid (HB0.out.trans (hb1.mono (by simp)))
    have HN1 : Hid (Below W.heap.size W (w1.alloc (.cells #[.bool false, .bool true, .func (.func 234) #[] #[.pointer (some ⟨a, 0, none⟩), .pointer (some ⟨b, 0, none⟩)], .func (.func 220) #[] #[]] 154))) := hid (HB1.out.trans (by have := HB1.out.size; go_grown; all_goals omega))
    clear hb1 hk hka
    go_wp2_with fail
    go_ret
    exact ⟨rfl, HN1.out⟩
  · rw [if_neg h0] at hr
    obtain rfl := none_of n (by omega)
    obtain ⟨q, hq⟩ : ∃ q, Hd.nameOk v = q := ⟨_, rfl⟩
    rw [hq] at hr
    have HC := hid (fun a b w ha hb => whenName_any v 7 q a b w hv ha hb hq)
    clear hq h0
    rw [hr] at HC
    clear hr
    go_enter Try.func57, Try.ntmps57
    go_wp2_with fail
    refine (HO.out _).mono ?_
    rintro e w1 ⟨a, b, c, d, rfl, hb1, hka⟩
    have hk := HZ.out.later hb1
    have d0 : w1.cell? ⟨W.heap.size, 0, none⟩ = some (.int .i64 2) := hk.cell 0
    have d1 : w1.cell? ⟨W.heap.size, 1, none⟩ = some (.string ByteArray.empty) := hk.cell 1
    have d2 : w1.cell? ⟨W.heap.size, 2, none⟩ = some (.string v) := hk.cell 2
    have hlt := hk.lt
    have HB1 := hid (HB0.out.trans (hb1.mono (by simp)))
    have HN1 : Hid (Below W.heap.size W (w1.alloc (.cells #[.bool false, .bool true, .func (.func 234) #[] #[.pointer (some ⟨a, 0, none⟩), .pointer (some ⟨b, 0, none⟩)], .func (.func 220) #[] #[]] 154))) := hid (HB1.out.trans (by have := HB1.out.size; go_grown; all_goals omega))
    clear hb1 hk
    go_wp2_with fail
    refine (HC.out _ _ _ (hka.out.a.alloc _) (hka.out.b.alloc _)).mono ?_
    rintro e w2 ⟨rfl, hb2⟩
    have HB2 := hid (HN1.out.trans (hb2.mono HN1.out.size))
    clear hb2
    go_wp2_with fail
    go_ret
    exact ⟨rfl, HB2.out⟩
set_option maxRecDepth 100000 in
set_option maxHeartbeats 1000000 in
theorem pcheck5 (n v : ByteArray) (r : Int) (W : World) (hn : n.size ≤ 1000000000000000) (hv : v.size ≤ 1000000000000000) (hr : (if Hd.nameOk n = true then (if Hd.valueOk v = true then 0 else 15) else 7) = r) :
    Calls Try.prog 57 #[.agg #[.int .i64 5, .string n, .string v]] W fun e w' => e = .returned (.int .i64 r) ∧ Below W.heap.size W w' := by
  have HO : Hid (∀ w, Calls Try.prog 143 #[.int .i64 5] w fun e w' => ∃ a b c d : Nat, e = .returned (.tuple #[.agg #[.bool true, .bool true, .func (.func 234) #[] #[.pointer (some ⟨c, 0, none⟩), .pointer (some ⟨d, 0, none⟩)], .func (.func 224) #[] #[]], .bool true]) ∧ Below w.heap.size w w' ∧ Hid (KindsAt w' a b c d)) := hid (fun w => of5 w)
  have HZ := hid (Blk.new W #[.int .i64 5, .string n, .string v] 54)
  have HB0 : Hid (Below W.heap.size W (W.alloc (.cells #[.int .i64 5, .string n, .string v] 54))) := by show Below _ _ _; go_grown
  obtain ⟨q, hq⟩ : ∃ q, Hd.nameOk n = q := ⟨_, rfl⟩
  obtain ⟨u, hu⟩ : ∃ u, Hd.valueOk v = u := ⟨_, rfl⟩
  have HN := hid (fun w => C04.name_any n w hn)
  have HC := hid (fun a b w ha hb => whenValue_any v 15 u a b w hv ha hb hu)
  rw [hq] at HN
  rw [hq, hu] at hr
  clear hq hu
  cases q
  · rw [if_neg (by simp)] at hr
    subst hr
    go_enter Try.func57, Try.ntmps57
    go_wp2_with fail
    refine (HO.out _).mono ?_
    rintro e w1 ⟨a, b, c, d, rfl, hb1, hka⟩
    have hk := HZ.out.later hb1
    have d0 : w1.cell? ⟨W.heap.size, 0, none⟩ = some (.int .i64 5) := hk.cell 0
    have d1 : w1.cell? ⟨W.heap.size, 1, none⟩ = some (.string n) := hk.cell 1
    have d2 : w1.cell? ⟨W.heap.size, 2, none⟩ = some (.string v) := hk.cell 2
    have hlt := hk.lt
    have HB1 := hid (HB0.out.trans (hb1.mono (by simp)))
    have HN1 : Hid (Below W.heap.size W (w1.alloc (.cells #[.bool true, .bool true, .func (.func 234) #[] #[.pointer (some ⟨c, 0, none⟩), .pointer (some ⟨d, 0, none⟩)], .func (.func 224) #[] #[]] 154))) := hid (HB1.out.trans (by have := HB1.out.size; go_grown; all_goals omega))
    clear hb1 hk hka
    go_wp2_with fail
    refine (HN.out _).mono ?_
    rintro e w' ⟨rfl, rfl⟩
    go_wp2_with fail
    go_ret
    exact ⟨rfl, HN1.out⟩
  · rw [if_pos rfl] at hr
    rw [hr] at HC
    clear hr
    go_enter Try.func57, Try.ntmps57
    go_wp2_with fail
    refine (HO.out _).mono ?_
    rintro e w1 ⟨a, b, c, d, rfl, hb1, hka⟩
    have hk := HZ.out.later hb1
    have d0 : w1.cell? ⟨W.heap.size, 0, none⟩ = some (.int .i64 5) := hk.cell 0
    have d1 : w1.cell? ⟨W.heap.size, 1, none⟩ = some (.string n) := hk.cell 1
    have d2 : w1.cell? ⟨W.heap.size, 2, none⟩ = some (.string v) := hk.cell 2
    have hlt := hk.lt
    have HB1 := hid (HB0.out.trans (hb1.mono (by simp)))
    have HN1 : Hid (Below W.heap.size W (w1.alloc (.cells #[.bool true, .bool true, .func (.func 234) #[] #[.pointer (some ⟨c, 0, none⟩), .pointer (some ⟨d, 0, none⟩)], .func (.func 224) #[] #[]] 154))) := hid (HB1.out.trans (by have := HB1.out.size; go_grown; all_goals omega))
    clear hb1 hk
    go_wp2_with fail
    refine (HN.out _).mono ?_
    rintro e w' ⟨rfl, rfl⟩
    go_wp2_with fail
    refine (HC.out _ _ _ (hka.out.c.alloc _) (hka.out.d.alloc _)).mono ?_
    rintro e w2 ⟨rfl, hb2⟩
    have HB2 := hid (HN1.out.trans (hb2.mono HN1.out.size))
    clear hb2
    go_wp2_with fail
    go_ret
    exact ⟨rfl, HB2.out⟩
set_option maxRecDepth 100000 in
set_option maxHeartbeats 1000000 in
theorem pcheck6 (n v : ByteArray) (r : Int) (W : World) (hn : n.size ≤ 1000000000000000) (hr : (if v.size ≠ 0 then 2 else if Hd.nameOk n = true then 0 else 7) = r) :
    Calls Try.prog 57 #[.agg #[.int .i64 6, .string n, .string v]] W fun e w' => e = .returned (.int .i64 r) ∧ Below W.heap.size W w' := by
  have HO : Hid (∀ w, Calls Try.prog 143 #[.int .i64 6] w fun e w' => ∃ a b c d : Nat, e = .returned (.tuple #[.agg #[.bool true, .bool false, .func (.func 225) #[] #[], .func (.func 226) #[] #[]], .bool true]) ∧ Below w.heap.size w w' ∧ Hid (KindsAt w' a b c d)) := hid (fun w => of6 w)
  have HZ := hid (Blk.new W #[.int .i64 6, .string n, .string v] 54)
  have HB0 : Hid (Below W.heap.size W (W.alloc (.cells #[.int .i64 6, .string n, .string v] 54))) := by show Below _ _ _; go_grown
  by_cases h0 : v.size ≠ 0
  · rw [if_pos h0] at hr
    have hf := full_of v h0
    have t1 := hf.t1
    have t2 := hf.t2
    have t3 := hf.t3
    subst hr
    clear hf h0
    go_enter Try.func57, Try.ntmps57
    go_wp2_with fail
    refine (HO.out _).mono ?_
    rintro e w1 ⟨a, b, c, d, rfl, hb1, hka⟩
    have hk := HZ.out.later hb1
    have d0 : w1.cell? ⟨W.heap.size, 0, none⟩ = some (.int .i64 6) := hk.cell 0
    have d1 : w1.cell? ⟨W.heap.size, 1, none⟩ = some (.string n) := hk.cell 1
    have d2 : w1.cell? ⟨W.heap.size, 2, none⟩ = some (.string v) := hk.cell 2
    have hlt := hk.lt
    have HB1 := hid (HB0.out.trans (hb1.mono (by simp)))
    have HN1 : Hid (Below W.heap.size W (w1.alloc (.cells #[.bool true, .bool false, .func (.func 225) #[] #[], .func (.func 226) #[] #[]] 154))) := hid (HB1.out.trans (by have := HB1.out.size; go_grown; all_goals omega))
    clear hb1 hk hka
    go_wp2_with fail
    go_ret
    exact ⟨rfl, HN1.out⟩
  · rw [if_neg h0] at hr
    obtain rfl := none_of v (by omega)
    obtain ⟨q, hq⟩ : ∃ q, Hd.nameOk n = q := ⟨_, rfl⟩
    have HN := hid (fun w => C04.name_any n w hn)
    have HC := hid (fun w => khas_any ByteArray.empty w)
    rw [hq] at hr HN
    clear hq h0
    cases q
    · rw [if_neg (by simp)] at hr
      subst hr
      go_enter Try.func57, Try.ntmps57
      go_wp2_with fail
      refine (HO.out _).mono ?_
      rintro e w1 ⟨a, b, c, d, rfl, hb1, hka⟩
      have hk := HZ.out.later hb1
      have d0 : w1.cell? ⟨W.heap.size, 0, none⟩ = some (.int .i64 6) := hk.cell 0
      have d1 : w1.cell? ⟨W.heap.size, 1, none⟩ = some (.string n) := hk.cell 1
      have d2 : w1.cell? ⟨W.heap.size, 2, none⟩ = some (.string ByteArray.empty) := hk.cell 2
      have hlt := hk.lt
      have HB1 := hid (HB0.out.trans (hb1.mono (by simp)))
      have HN1 : Hid (Below W.heap.size W (w1.alloc (.cells #[.bool true, .bool false, .func (.func 225) #[] #[], .func (.func 226) #[] #[]] 154))) := hid (HB1.out.trans (by have := HB1.out.size; go_grown; all_goals omega))
      clear hb1 hk hka
      go_wp2_with fail
      refine (HN.out _).mono ?_
      rintro e w' ⟨rfl, rfl⟩
      go_wp2_with fail
      go_ret
      exact ⟨rfl, HN1.out⟩
    · rw [if_pos rfl] at hr
      subst hr
      go_enter Try.func57, Try.ntmps57
      go_wp2_with fail
      refine (HO.out _).mono ?_
      rintro e w1 ⟨a, b, c, d, rfl, hb1, hka⟩
      have hk := HZ.out.later hb1
      have d0 : w1.cell? ⟨W.heap.size, 0, none⟩ = some (.int .i64 6) := hk.cell 0
      have d1 : w1.cell? ⟨W.heap.size, 1, none⟩ = some (.string n) := hk.cell 1
      have d2 : w1.cell? ⟨W.heap.size, 2, none⟩ = some (.string ByteArray.empty) := hk.cell 2
      have hlt := hk.lt
      have HB1 := hid (HB0.out.trans (hb1.mono (by simp)))
      have HN1 : Hid (Below W.heap.size W (w1.alloc (.cells #[.bool true, .bool false, .func (.func 225) #[] #[], .func (.func 226) #[] #[]] 154))) := hid (HB1.out.trans (by have := HB1.out.size; go_grown; all_goals omega))
      clear hb1 hk hka
      go_wp2_with fail
      refine (HN.out _).mono ?_
      rintro e w' ⟨rfl, rfl⟩
      go_wp2_with fail
      refine (HC.out _).mono ?_
      rintro e w' ⟨rfl, rfl⟩
      go_wp2_with fail
      go_ret
      exact ⟨rfl, HN1.out⟩
end C11
end Go.Proofs.Ytpamnknfccmgcaa
