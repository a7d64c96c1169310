/- Walks of layer 11 (pred): the document's check; no condition. -/
import Derived.Test.YtpamnknfccmgcaaK11
namespace Go.Proofs.Ytpamnknfccmgcaa
open Go.RowKit Go.Peri
namespace C11
set_option maxRecDepth 100000 in
set_option maxHeartbeats 1000000 in
theorem rcheck1 (n v : ByteArray) (r : Int) (W : World) (hv : v.size ≤ 1000000000000000) (hr : (if n.size ≠ 0 then 2 else if methodOk v = true then 0 else 3) = r) :
    Calls Try.prog 58 #[.agg #[.int .i64 1, .string n, .string v]] W fun e w' => e = .returned (.int .i64 r) ∧ Below W.heap.size W w' := by
  by_cases h0 : n.size ≠ 0
  · rw [if_pos h0] at hr
    have hf := full_of n h0
    have t1 := hf.t1
    have t2 := hf.t2
    have t3 := hf.t3
    subst hr
    clear hf h0
    go_enter Try.func58, Try.ntmps58
    go_wp2_with fail
    go_ret
    exact ⟨rfl, by go_grown⟩
  · rw [if_neg h0] at hr
    obtain rfl := none_of n (by omega)
    obtain ⟨q, hq⟩ : ∃ q, methodOk v = q := ⟨_, rfl⟩
    have HC := hid (fun w => rmethod_any v q w hv hq)
    rw [hq] at hr
    clear hq h0
    cases q
    · rw [if_neg (by simp)] at hr
      subst hr
      go_enter Try.func58, Try.ntmps58
      go_wp2_with fail
      refine (HC.out _).mono ?_
      rintro e w' ⟨rfl, rfl⟩
      go_wp2_with fail
      go_ret
      exact ⟨rfl, by go_grown⟩
    · rw [if_pos rfl] at hr
      subst hr
      go_enter Try.func58, Try.ntmps58
      go_wp2_with fail
      refine (HC.out _).mono ?_
      rintro e w' ⟨rfl, rfl⟩
      go_wp2_with fail
      go_ret
      exact ⟨rfl, by go_grown⟩
set_option maxRecDepth 100000 in
set_option maxHeartbeats 1000000 in
theorem rcheck2 (n v : ByteArray) (r : Int) (W : World) (hv : v.size ≤ 1000000000000000) (hr : (if n.size ≠ 0 then 2 else if Hd.nameOk v = true then 0 else 7) = r) :
    Calls Try.prog 58 #[.agg #[.int .i64 2, .string n, .string v]] W fun e w' => e = .returned (.int .i64 r) ∧ Below W.heap.size W w' := by
  by_cases h0 : n.size ≠ 0
  · rw [if_pos h0] at hr
    have hf := full_of n h0
    have t1 := hf.t1
    have t2 := hf.t2
    have t3 := hf.t3
    subst hr
    clear hf h0
    go_enter Try.func58, Try.ntmps58
    go_wp2_with fail
    go_ret
    exact ⟨rfl, by go_grown⟩
  · rw [if_neg h0] at hr
    obtain rfl := none_of n (by omega)
    obtain ⟨q, hq⟩ : ∃ q, Hd.nameOk v = q := ⟨_, rfl⟩
    have HC := hid (fun w => C04.rname_any v w hv)
    rw [hq] at hr HC
    clear hq h0
    cases q
    · rw [if_neg (by simp)] at hr
      subst hr
      go_enter Try.func58, Try.ntmps58
      go_wp2_with fail
      refine (HC.out _).mono ?_
      rintro e w' ⟨rfl, rfl⟩
      go_wp2_with fail
      go_ret
      exact ⟨rfl, by go_grown⟩
    · rw [if_pos rfl] at hr
      subst hr
      go_enter Try.func58, Try.ntmps58
      go_wp2_with fail
      refine (HC.out _).mono ?_
      rintro e w' ⟨rfl, rfl⟩
      go_wp2_with fail
      go_ret
      exact ⟨rfl, by go_grown⟩
set_option maxRecDepth 100000 in
set_option maxHeartbeats 1000000 in
theorem rcheck3 (n v : ByteArray) (r : Int) (W : World) (hv : v.size ≤ 1000000000000000) (hr : (if n.size ≠ 0 then 2 else if pathOk v = true then 0 else 12) = r) :
    Calls Try.prog 58 #[.agg #[.int .i64 3, .string n, .string v]] W fun e w' => e = .returned (.int .i64 r) ∧ Below W.heap.size W w' := by
  by_cases h0 : n.size ≠ 0
  · rw [if_pos h0] at hr
    have hf := full_of n h0
    have t1 := hf.t1
    have t2 := hf.t2
    have t3 := hf.t3
    subst hr
    clear hf h0
    go_enter Try.func58, Try.ntmps58
    go_wp2_with fail
    go_ret
    exact ⟨rfl, by go_grown⟩
  · rw [if_neg h0] at hr
    obtain rfl := none_of n (by omega)
    obtain ⟨q, hq⟩ : ∃ q, pathOk v = q := ⟨_, rfl⟩
    have HC := hid (fun w => rpath_any v q w hv hq)
    rw [hq] at hr
    clear hq h0
    cases q
    · rw [if_neg (by simp)] at hr
      subst hr
      go_enter Try.func58, Try.ntmps58
      go_wp2_with fail
      refine (HC.out _).mono ?_
      rintro e w' ⟨rfl, rfl⟩
      go_wp2_with fail
      go_ret
      exact ⟨rfl, by go_grown⟩
    · rw [if_pos rfl] at hr
      subst hr
      go_enter Try.func58, Try.ntmps58
      go_wp2_with fail
      refine (HC.out _).mono ?_
      rintro e w' ⟨rfl, rfl⟩
      go_wp2_with fail
      go_ret
      exact ⟨rfl, by go_grown⟩
set_option maxRecDepth 100000 in
set_option maxHeartbeats 1000000 in
theorem rcheck4 (n v : ByteArray) (r : Int) (W : World) (hv : v.size ≤ 1000000000000000) (hr : (if n.size ≠ 0 then 2 else if pathOk v = true then 0 else 12) = r) :
    Calls Try.prog 58 #[.agg #[.int .i64 4, .string n, .string v]] W fun e w' => e = .returned (.int .i64 r) ∧ Below W.heap.size W w' := by
  by_cases h0 : n.size ≠ 0
  · rw [if_pos h0] at hr
    have hf := full_of n h0
    have t1 := hf.t1
    have t2 := hf.t2
    have t3 := hf.t3
    subst hr
    clear hf h0
    go_enter Try.func58, Try.ntmps58
    go_wp2_with fail
    go_ret
    exact ⟨rfl, by go_grown⟩
  · rw [if_neg h0] at hr
    obtain rfl := none_of n (by omega)
    obtain ⟨q, hq⟩ : ∃ q, pathOk v = q := ⟨_, rfl⟩
    have HC := hid (fun w => rpath_any v q w hv hq)
    rw [hq] at hr
    clear hq h0
    cases q
    · rw [if_neg (by simp)] at hr
      subst hr
      go_enter Try.func58, Try.ntmps58
      go_wp2_with fail
      refine (HC.out _).mono ?_
      rintro e w' ⟨rfl, rfl⟩
      go_wp2_with fail
      go_ret
      exact ⟨rfl, by go_grown⟩
    · rw [if_pos rfl] at hr
      subst hr
      go_enter Try.func58, Try.ntmps58
      go_wp2_with fail
      refine (HC.out _).mono ?_
      rintro e w' ⟨rfl, rfl⟩
      go_wp2_with fail
      go_ret
      exact ⟨rfl, by go_grown⟩
set_option maxRecDepth 100000 in
set_option maxHeartbeats 1000000 in
theorem rcheck5 (n v : ByteArray) (r : Int) (W : World) (hn : n.size ≤ 1000000000000000) (hv : v.size ≤ 1000000000000000) (hr : (if Hd.nameOk n = true then (if Hd.valueOk v = true then 0 else 15) else 7) = r) :
    Calls Try.prog 58 #[.agg #[.int .i64 5, .string n, .string v]] W fun e w' => e = .returned (.int .i64 r) ∧ Below W.heap.size W w' := by
  obtain ⟨q, hq⟩ : ∃ q, Hd.nameOk n = q := ⟨_, rfl⟩
  obtain ⟨u, hu⟩ : ∃ u, Hd.valueOk v = u := ⟨_, rfl⟩
  have HN := hid (fun w => C04.rname_any n w hn)
  have HC := hid (fun w => C04.rvalue_any v w hv)
  rw [hq] at HN
  rw [hu] at HC
  rw [hq, hu] at hr
  clear hq hu
  cases q
  · rw [if_neg (by simp)] at hr
    subst hr
    go_enter Try.func58, Try.ntmps58
    go_wp2_with fail
    refine (HN.out _).mono ?_
    rintro e w' ⟨rfl, rfl⟩
    go_wp2_with fail
    go_ret
    exact ⟨rfl, by go_grown⟩
  rw [if_pos rfl] at hr
  cases u
  · rw [if_neg (by simp)] at hr
    subst hr
    go_enter Try.func58, Try.ntmps58
    go_wp2_with fail
    refine (HN.out _).mono ?_
    rintro e w' ⟨rfl, rfl⟩
    go_wp2_with fail
    refine (HC.out _).mono ?_
    rintro e w' ⟨rfl, rfl⟩
    go_wp2_with fail
    go_ret
    exact ⟨rfl, by go_grown⟩
  · rw [if_pos rfl] at hr
    subst hr
    go_enter Try.func58, Try.ntmps58
    go_wp2_with fail
    refine (HN.out _).mono ?_
    rintro e w' ⟨rfl, rfl⟩
    go_wp2_with fail
    refine (HC.out _).mono ?_
    rintro e w' ⟨rfl, rfl⟩
    go_wp2_with fail
    go_ret
    exact ⟨rfl, by go_grown⟩
set_option maxRecDepth 100000 in
set_option maxHeartbeats 1000000 in
theorem rcheck6 (n v : ByteArray) (r : Int) (W : World) (hn : n.size ≤ 1000000000000000) (hr : (if v.size ≠ 0 then 2 else if Hd.nameOk n = true then 0 else 7) = r) :
    Calls Try.prog 58 #[.agg #[.int .i64 6, .string n, .string v]] W fun e w' => e = .returned (.int .i64 r) ∧ Below W.heap.size W w' := by
  by_cases h0 : v.size ≠ 0
  · rw [if_pos h0] at hr
    have hf := full_of v h0
    have t1 := hf.t1
    have t2 := hf.t2
    have t3 := hf.t3
    subst hr
    clear hf h0
    go_enter Try.func58, Try.ntmps58
    go_wp2_with fail
    go_ret
    exact ⟨rfl, by go_grown⟩
  · rw [if_neg h0] at hr
    obtain rfl := none_of v (by omega)
    obtain ⟨q, hq⟩ : ∃ q, Hd.nameOk n = q := ⟨_, rfl⟩
    have HC := hid (fun w => C04.rname_any n w hn)
    rw [hq] at hr HC
    clear hq h0
    cases q
    · rw [if_neg (by simp)] at hr
      subst hr
      go_enter Try.func58, Try.ntmps58
      go_wp2_with fail
      refine (HC.out _).mono ?_
      rintro e w' ⟨rfl, rfl⟩
      go_wp2_with fail
      go_ret
      exact ⟨rfl, by go_grown⟩
    · rw [if_pos rfl] at hr
      subst hr
      go_enter Try.func58, Try.ntmps58
      go_wp2_with fail
      refine (HC.out _).mono ?_
      rintro e w' ⟨rfl, rfl⟩
      go_wp2_with fail
      go_ret
      exact ⟨rfl, by go_grown⟩
end C11
end Go.Proofs.Ytpamnknfccmgcaa
