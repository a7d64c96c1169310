/- Walks of layer 15 (chance): what each call returns and what it leaves of memory; no condition. -/
import Derived.Test.YtefaegoajjcfjaaC15
namespace Go.Proofs.Ytefaegoajjcfjaa
open Go.RowKit Go.Peri
namespace C15
theorem eq25 (a b c d e f : Int) (w : World) : (Op.equalIn 10000 25 (.agg #[.int .i64 a, .int .i64 b, .int .i64 c]) (.agg #[.int .i64 d, .int .i64 e, .int .i64 f])).run Try.prog w = .ok (a == d && b == e && c == f) w := by
  have u3 := Try.underlying3
  have a3 := Try.isAgg3
  have z3 := Try.sizeOf3
  rw [show (10000 : Nat) = 9999 + 1 from rfl, Op.equalIn]
  simp only [Sem.run_bind, run_underlying Try.underlying25, Result.andThen_ok]
  simp only [Std.Legacy.Range.forIn_eq_forIn_range', Std.Legacy.Range.size, Nat.sub_zero, Nat.add_sub_cancel, Nat.div_one, List.range'_succ, List.range'_zero, List.forIn_cons, List.forIn_nil]
  go_simp
  by_cases h1 : a = d <;> by_cases h2 : b = e <;> by_cases h3 : c = f <;> simp [h1, h2, h3]

set_option maxRecDepth 100000 in
theorem known_any (w : World) : Calls Try.prog 24 #[] w fun e w' => e = .returned (.bool true) ∧ Below w.heap.size w w' := by
  have HI : Hid (IsInts (w.heap.size + 1) (w.alloc (.cells #[.int .i64 1, .int .i64 2, .int .i64 103, .int .i64 (-1)] 3)) (.slice (some ⟨w.heap.size, 0, none⟩) 4 4) [1, 2, 103, -1]) := isVals_new w ([1, 2, 103, -1].map (Value.int .i64)) 3 (by decide)
  have q := eq25
  have e1 : at_ [1, 2, 103, -1] 2 = 3 := by decide
  have e2 : at_ [1, 2, 103, -1] 9 = 99 := by decide
  have e3 : draws [1, 2, 103, -1] 0 = .agg #[.int .i64 2, .int .i64 3, .int .i64 99] := by rfl
  have e4 : draws [1, 2, 103, -1] (-1) = .agg #[.int .i64 99, .int .i64 99, .int .i64 99] := by rfl
  go_enter Try.func24, Try.ntmps24
  go_wp2_with (first
    | (go_at_call 18; refine (fires_any _ _ _).mono ?_; rintro e w' ⟨rfl, rfl⟩)
    | (go_at_call 20; refine (at_any _ _ _ _ HI.out).mono ?_; rintro e w' ⟨rfl, rfl⟩))
  refine (draws_any _ _ _ _ HI.out (by simp) (by simp)).mono ?_
  rintro e w1 ⟨rfl, hb⟩
  have HI2 := hid (HI.out.below (hb.mono (by simp)))
  go_wp2_with fail

  refine (draws_any _ _ _ _ HI2.out (by simpa using hb.size) (by simp)).mono ?_
  rintro e w2 ⟨rfl, hb2⟩
  go_wp2
  go_ret
  exact ⟨rfl, (((Below.refl _ _).alloc (Nat.le_refl _) _).trans (hb.mono (by simp))).trans (hb2.mono (by have := hb.size; simp at this; omega))⟩

theorem draws_form (zs : List Int) (n : Int) : ∃ a b c : Int, draws zs n = .agg #[.int .i64 a, .int .i64 b, .int .i64 c] := by
  unfold draws; split <;> exact ⟨_, _, _, rfl⟩

set_option maxRecDepth 100000 in
theorem says_walk (d p n : Int) (v : Value) (zs : List Int) (w : World) (h : IsInts w.heap.size w v zs) (hl : zs.length ≤ 140737488351232) :
    Calls Try.prog 3 #[.int .i64 d, .int .i64 p, v, .int .i64 n] w fun e w' => e = .returned (.bool true) ∧ Below w.heap.size w w' := by
  have q := eq25
  have HI := hid h
  obtain ⟨a, b, c, hd⟩ := draws_form zs n
  have HD := hid hd
  clear h hd
  go_enter Try.func3, Try.ntmps3
  go_wp2_with (first
    | (go_at_call 18; refine (fires_any _ _ _).mono ?_; rintro e w' ⟨rfl, rfl⟩)
    | (go_at_call 19; refine (rfires_any _ _ _).mono ?_; rintro e w' ⟨rfl, rfl⟩)
    | (go_at_call 20; refine (at_any _ _ _ _ HI.out).mono ?_; rintro e w' ⟨rfl, rfl⟩)
    | (go_at_call 21; refine (rat_any _ _ _ _ HI.out).mono ?_; rintro e w' ⟨rfl, rfl⟩))
  refine (draws_any _ zs _ _ HI.out (Nat.le_refl _) hl).mono ?_
  rintro e w1 ⟨rfl, hb⟩
  rw [HD.out]
  have HI2 := hid (HI.out.below hb)
  go_wp2_with fail
  refine (rdraws_any _ zs _ _ HI2.out hb.size hl).mono ?_
  rintro e w2 ⟨rfl, hb2⟩
  rw [HD.out]
  go_wp2_with fail
  refine (known_any _).mono ?_
  rintro e w3 ⟨rfl, hb3⟩
  go_wp2_with fail
  go_ret
  exact ⟨rfl, (hb.trans (hb2.mono hb.size)).trans (hb3.mono (Nat.le_trans hb.size hb2.size))⟩

theorem draws_val {B : Nat} (v r : Value) (zs : List Int) (n : Int) (w : World) (h : IsInts B w v zs) (hB : B ≤ w.heap.size) (hl : zs.length ≤ 140737488351232) (hr : draws zs n = r) : Calls Try.prog 22 #[v, .int .i64 n] w fun e w' => e = .returned r ∧ Below w.heap.size w w' := by
  rw [← hr]; exact draws_any v zs n w h hB hl
theorem at_val {B : Nat} (v : Value) (zs : List Int) (n r : Int) (w : World) (h : IsInts B w v zs) (hr : r = at_ zs n) : Calls Try.prog 20 #[v, .int .i64 n] w fun e w' => e = .returned (.int .i64 r) ∧ w = w' := by
  rw [hr]; exact at_any v zs n w h

set_option maxRecDepth 100000 in
theorem cdraws_walk (hop k : Int) (v : Value) (zs : List Int) (w : World) (h : IsInts w.heap.size w v zs) (hl : zs.length ≤ 140737488351232) :
    Calls Try.prog 5 #[v, .int .i64 hop, .int .i64 k] w fun e w' => e = .returned (.bool true) ∧ Below w.heap.size w w' := by
  have HI := hid h
  clear h
  by_cases c1 : 0 ≤ hop ∧ hop ≤ 1000000 ∧ 0 ≤ k ∧ k ≤ 2
  · obtain ⟨h1, h2, h3, h4⟩ := c1
    have hk : k = 0 ∨ k = 1 ∨ k = 2 := by omega
    have hd : ∃ a b c : Int, draws zs hop = .agg #[.int .i64 a, .int .i64 b, .int .i64 c] ∧ a = at_ zs (1 + 3 * hop) ∧ b = at_ zs (1 + 3 * hop + 1) ∧ c = at_ zs (1 + 3 * hop + 2) := by
      unfold draws
      split
      · exact ⟨_, _, _, rfl, rfl, rfl, rfl⟩
      · refine ⟨_, _, _, rfl, ?_, ?_, ?_⟩ <;> (unfold at_; rw [if_neg (by omega)])
    obtain ⟨a, b, c, hd, ha, hb, hc⟩ := hd
    have HD := hid hd
    have HA := hid ha
    have HB := hid hb
    have HC := hid hc
    clear hd ha hb hc
    have i0 : ∀ w, (Instr.index 25 (.agg #[.int .i64 a, .int .i64 b, .int .i64 c]) (.int .i64 0)).run Try.prog w = .ok (.int .i64 a) w := fun _ => by kernel_rfl
    have i1 : ∀ w, (Instr.index 25 (.agg #[.int .i64 a, .int .i64 b, .int .i64 c]) (.int .i64 1)).run Try.prog w = .ok (.int .i64 b) w := fun _ => by kernel_rfl
    have i2 : ∀ w, (Instr.index 25 (.agg #[.int .i64 a, .int .i64 b, .int .i64 c]) (.int .i64 2)).run Try.prog w = .ok (.int .i64 c) w := fun _ => by kernel_rfl
    rcases hk with rfl | rfl | rfl
    · go_enter Try.func5, Try.ntmps5
      go_wp2_with fail
      refine wp_region_bw (by kernel_rfl) (by kernel_rfl) ?_
      repeat (go_big_quiet_step ((first
        | (go_at_call 22; exact bw_call (draws_val _ _ zs _ _ (HI.out.below (BW.prop _)) (BW.prop _).size hl HD.out))
        | (go_at_call 20; exact bw_same (at_val _ zs _ _ _ (HI.out.below (BW.prop _)) HA.out))
        | (go_at_call 24; exact bw_call (known_any _)))))
      refine wpQuiet_nil ?_
      rintro _ ⟨⟨w2, hb2⟩, rfl⟩
      go_wp2_with fail
      go_ret
      exact ⟨rfl, hb2⟩
    · go_enter Try.func5, Try.ntmps5
      go_wp2_with fail
      refine wp_region_bw (by kernel_rfl) (by kernel_rfl) ?_
      repeat (go_big_quiet_step ((first
        | (go_at_call 22; exact bw_call (draws_val _ _ zs _ _ (HI.out.below (BW.prop _)) (BW.prop _).size hl HD.out))
        | (go_at_call 20; exact bw_same (at_val _ zs _ _ _ (HI.out.below (BW.prop _)) HB.out))
        | (go_at_call 24; exact bw_call (known_any _)))))
      refine wpQuiet_nil ?_
      rintro _ ⟨⟨w2, hb2⟩, rfl⟩
      go_wp2_with fail
      go_ret
      exact ⟨rfl, hb2⟩
    · go_enter Try.func5, Try.ntmps5
      go_wp2_with fail
      refine wp_region_bw (by kernel_rfl) (by kernel_rfl) ?_
      repeat (go_big_quiet_step ((first
        | (go_at_call 22; exact bw_call (draws_val _ _ zs _ _ (HI.out.below (BW.prop _)) (BW.prop _).size hl HD.out))
        | (go_at_call 20; exact bw_same (at_val _ zs _ _ _ (HI.out.below (BW.prop _)) HC.out))
        | (go_at_call 24; exact bw_call (known_any _)))))
      refine wpQuiet_nil ?_
      rintro _ ⟨⟨w2, hb2⟩, rfl⟩
      go_wp2_with fail
      go_ret
      exact ⟨rfl, hb2⟩
  · by_cases a1 : hop < 0
    · clear c1
      go_enter Try.func5, Try.ntmps5
      go_wp2_with (go_at_call 24; refine (known_any _).mono ?_; rintro e w' ⟨rfl, hb⟩)
      go_ret
      exact ⟨rfl, by assumption⟩
    · by_cases a2 : 1000000 < hop
      · clear c1
        go_enter Try.func5, Try.ntmps5
        go_wp2_with (go_at_call 24; refine (known_any _).mono ?_; rintro e w' ⟨rfl, hb⟩)
        go_ret
        exact ⟨rfl, by assumption⟩
      · by_cases a3 : k < 0
        · clear c1
          go_enter Try.func5, Try.ntmps5
          go_wp2_with (go_at_call 24; refine (known_any _).mono ?_; rintro e w' ⟨rfl, hb⟩)
          go_ret
          exact ⟨rfl, by assumption⟩
        · have a4 : 2 < k := by omega
          clear c1
          go_enter Try.func5, Try.ntmps5
          go_wp2_with (go_at_call 24; refine (known_any _).mono ?_; rintro e w' ⟨rfl, hb⟩)
          go_ret
          exact ⟨rfl, by assumption⟩
end C15
end Go.Proofs.Ytefaegoajjcfjaa
