/- Walks of layer 15 (chance): what each call returns and what it leaves of memory; no condition. -/
import Derived.Test.YtefaegoajjcfjaaProg
import Derived.Test.YtefaegoajjcfjaaBase
namespace Go.Proofs.Ytefaegoajjcfjaa
open Go.RowKit Go.Peri
namespace C15
theorem tmod_parts (n : Int) : -100 < n.tmod 100 ∧ n.tmod 100 < 100 ∧ n = 100 * n.tdiv 100 + n.tmod 100 := by
  refine ⟨?_, ?_, ?_⟩
  · have := Int.lt_tmod_of_pos n (show (0:Int) < 100 by decide); omega
  · exact Int.tmod_lt_of_pos n (by decide)
  · exact (Int.mul_tdiv_add_tmod n 100).symm

theorem left_any (n : Int) (w : World) : Calls Try.prog 65 #[.int .i64 n] w fun e w' => e = .returned (.int .i64 (n % 100)) ∧ w = w' := by
  obtain ⟨h1, h2, h3⟩ := tmod_parts n
  have H := hid h3; clear h3
  go_enter Try.func65, Try.ntmps65
  go_wp2
  go_ret
  have h3 := H.out
  exact ⟨ret_int (by omega), rfl⟩

theorem rleft_any (n : Int) (w : World) : Calls Try.prog 66 #[.int .i64 n] w fun e w' => e = .returned (.int .i64 (n % 100)) ∧ w = w' := by
  obtain ⟨h1, h2, h3⟩ := tmod_parts n
  have H := hid h3; clear h3
  by_cases h : n.tmod 100 < 0
  all_goals
    go_enter Try.func66, Try.ntmps66
    go_wp2
    go_ret
    have h3 := H.out
    exact ⟨ret_int (by omega), rfl⟩

theorem fires_any (n p : Int) (w : World) : Calls Try.prog 18 #[.int .i64 n, .int .i64 p] w fun e w' => e = .returned (.bool (decide (n % 100 < p))) ∧ w = w' := by
  go_enter Try.func18, Try.ntmps18
  go_wp2_with (go_at_call 65; refine (left_any _ _).mono ?_; rintro e w' ⟨rfl, rfl⟩)
  go_ret
  exact ⟨rfl, rfl⟩
theorem rfires_any (n p : Int) (w : World) : Calls Try.prog 19 #[.int .i64 n, .int .i64 p] w fun e w' => e = .returned (.bool (decide (n % 100 < p))) ∧ w = w' := by
  go_enter Try.func19, Try.ntmps19
  go_wp2_with (go_at_call 66; refine (rleft_any _ _).mono ?_; rintro e w' ⟨rfl, rfl⟩)
  go_ret
  exact ⟨rfl, rfl⟩

/-- A list of ints as a slice value reads. -/
def IsInts (B : Nat) (w : World) (v : Value) (zs : List Int) : Prop := IsVals B w v (zs.map (Value.int .i64))
theorem IsInts.below {B : Nat} {w w' : World} {v : Value} {zs : List Int} (h : IsInts B w v zs) (hb : Below B w w') : IsInts B w' v zs := IsVals.below h hb
theorem IsInts.parts {B : Nat} {w : World} {v : Value} {zs : List Int} (h : IsInts B w v zs) : ∃ a cap, v = .slice a zs.length cap ∧ zs.length ≤ cap ∧ cap ≤ maxLen ∧
    (zs = [] ∨ ∃ b off, a = some ⟨b, off, none⟩ ∧ b < B ∧ ∀ i, i < zs.length → w.cell? ⟨b, off + i, none⟩ = some (.int .i64 (zs.getD i 0))) := by
  obtain ⟨a, cap, h1, h2, h3, _, h4⟩ := h
  rw [List.length_map] at h1 h2 h4
  refine ⟨a, cap, h1, h2, h3, ?_⟩
  rcases h4 with h4 | ⟨b, off, e1, e2, e3⟩
  · exact .inl (List.map_eq_nil_iff.1 h4)
  · exact .inr ⟨b, off, e1, e2, fun i hi => by rw [e3 i hi]; simp [List.getD, hi]⟩

def at_ (zs : List Int) (n : Int) : Int := if 0 ≤ n ∧ n < zs.length then zs.getD n.toNat 0 % 100 else 99

theorem at_any {B : Nat} (v : Value) (zs : List Int) (n : Int) (w : World) (h : IsInts B w v zs) : Calls Try.prog 20 #[v, .int .i64 n] w fun e w' => e = .returned (.int .i64 (at_ zs n)) ∧ w = w' := by
  by_cases hn : 0 ≤ n ∧ n < zs.length
  · have H : Hid (at_ zs n = zs.getD n.toNat 0 % 100) := if_pos hn
    obtain ⟨hn0, hn1⟩ := hn
    obtain ⟨k, rfl⟩ := Int.eq_ofNat_of_zero_le hn0
    obtain ⟨a, cap, rfl, hc, hm, rfl | ⟨b, off, rfl, _, hcell⟩⟩ := h.parts
    · simp at hn1; omega
    · have hk : k < zs.length := by omega
      clear h
      have c0 := hcell k hk
      have H2 : Hid (at_ zs k = zs.getD k 0 % 100) := by have := H.out; exact this
      generalize zs.getD k 0 = z at c0 H2
      unfold maxLen at hm
      clear hcell H
      go_enter Try.func20, Try.ntmps20
      go_wp2_with (go_at_call 65; refine (left_any _ _).mono ?_; rintro e w' ⟨rfl, rfl⟩)
      go_ret
      exact ⟨by rw [H2.out]; rfl, rfl⟩
  · have H : Hid (at_ zs n = 99) := if_neg hn
    obtain ⟨a, cap, rfl, hc, hm, _⟩ := h.parts
    · clear h
      unfold maxLen at hm
      by_cases h0 : n < 0
      · clear hn
        go_enter Try.func20, Try.ntmps20
        go_wp2
        go_ret
        exact ⟨by rw [H.out]; rfl, rfl⟩
      · have h1 : ¬ n < (zs.length : Int) := by omega
        clear hn
        go_enter Try.func20, Try.ntmps20
        go_wp2
        go_ret
        exact ⟨by rw [H.out]; rfl, rfl⟩

theorem rat_any {B : Nat} (v : Value) (zs : List Int) (n : Int) (w : World) (h : IsInts B w v zs) : Calls Try.prog 21 #[v, .int .i64 n] w fun e w' => e = .returned (.int .i64 (at_ zs n)) ∧ w = w' := by
  by_cases hn : 0 ≤ n ∧ n < zs.length
  · have H : Hid (at_ zs n = zs.getD n.toNat 0 % 100) := if_pos hn
    obtain ⟨hn0, hn1⟩ := hn
    obtain ⟨k, rfl⟩ := Int.eq_ofNat_of_zero_le hn0
    obtain ⟨a, cap, rfl, hc, hm, rfl | ⟨b, off, rfl, _, hcell⟩⟩ := h.parts
    · simp at hn1; omega
    · have hk : k < zs.length := by omega
      clear h
      have c0 := hcell k hk
      have H2 : Hid (at_ zs k = zs.getD k 0 % 100) := by have := H.out; exact this
      generalize zs.getD k 0 = z at c0 H2
      unfold maxLen at hm
      clear hcell H
      go_enter Try.func21, Try.ntmps21
      go_wp2_with (go_at_call 66; refine (rleft_any _ _).mono ?_; rintro e w' ⟨rfl, rfl⟩)
      go_ret
      exact ⟨by rw [H2.out]; rfl, rfl⟩
  · have H : Hid (at_ zs n = 99) := if_neg hn
    obtain ⟨a, cap, rfl, hc, hm, _⟩ := h.parts
    · clear h
      unfold maxLen at hm
      by_cases h0 : n < 0
      · clear hn
        go_enter Try.func21, Try.ntmps21
        go_wp2
        go_ret
        exact ⟨by rw [H.out]; rfl, rfl⟩
      · have h1 : ¬ n < (zs.length : Int) := by omega
        clear hn
        go_enter Try.func21, Try.ntmps21
        go_wp2
        go_ret
        exact ⟨by rw [H.out]; rfl, rfl⟩


def draws (zs : List Int) (hop : Int) : Value :=
  if 0 ≤ hop ∧ hop ≤ zs.length then .agg #[.int .i64 (at_ zs (1 + 3 * hop)), .int .i64 (at_ zs (1 + 3 * hop + 1)), .int .i64 (at_ zs (1 + 3 * hop + 2))] else .agg #[.int .i64 99, .int .i64 99, .int .i64 99]

theorem draws_any {B : Nat} (v : Value) (zs : List Int) (n : Int) (w : World) (h : IsInts B w v zs) (hB : B ≤ w.heap.size) (hl : zs.length ≤ 140737488351232) : Calls Try.prog 22 #[v, .int .i64 n] w fun e w' => e = .returned (draws zs n) ∧ Below w.heap.size w w' := by
  by_cases hn : 0 ≤ n ∧ n ≤ zs.length
  · have H : Hid (draws zs n = .agg #[.int .i64 (at_ zs (1 + 3 * n)), .int .i64 (at_ zs (1 + 3 * n + 1)), .int .i64 (at_ zs (1 + 3 * n + 2))]) := if_pos hn
    obtain ⟨hn0, hn1⟩ := hn
    obtain ⟨a0, cap, rfl, _⟩ := h.parts
    have HI := hid h
    clear h
    go_enter Try.func22, Try.ntmps22
    go_wp2_with fail
    refine wp_loop_rounds 4 ?_
    rw [rounds_succ]
    go_wp2_with (go_at_call 20; refine (at_any _ zs _ _ (HI.out.below ?_)).mono ?_; (focus go_grown); rintro e w' ⟨rfl, rfl⟩)
    rw [rounds_succ]
    go_wp2_with (go_at_call 20; refine (at_any _ zs _ _ (HI.out.below ?_)).mono ?_; (focus go_grown); rintro e w' ⟨rfl, rfl⟩)
    rw [rounds_succ]
    go_wp2_with (go_at_call 20; refine (at_any _ zs _ _ (HI.out.below ?_)).mono ?_; (focus go_grown); rintro e w' ⟨rfl, rfl⟩)
    rw [rounds_succ]
    go_wp2_with (go_at_call 20; refine (at_any _ zs _ _ (HI.out.below ?_)).mono ?_; (focus go_grown); rintro e w' ⟨rfl, rfl⟩)
    go_returns
    exact ⟨by rw [H.out], by go_grown⟩
  · have H : Hid (draws zs n = .agg #[.int .i64 99, .int .i64 99, .int .i64 99]) := if_neg hn
    obtain ⟨a0, cap, rfl, _⟩ := h.parts
    clear h
    by_cases h0 : n < 0
    · clear hn
      go_enter Try.func22, Try.ntmps22
      go_wp2
      go_returns
      exact ⟨by rw [H.out], by go_grown⟩
    · have h1 : (zs.length : Int) < n := by omega
      clear hn
      go_enter Try.func22, Try.ntmps22
      go_wp2
      go_returns
      exact ⟨by rw [H.out], by go_grown⟩
theorem rdraws_any {B : Nat} (v : Value) (zs : List Int) (n : Int) (w : World) (h : IsInts B w v zs) (hB : B ≤ w.heap.size) (hl : zs.length ≤ 140737488351232) : Calls Try.prog 23 #[v, .int .i64 n] w fun e w' => e = .returned (draws zs n) ∧ Below w.heap.size w w' := by
  by_cases hn : 0 ≤ n ∧ n ≤ zs.length
  · have H : Hid (draws zs n = .agg #[.int .i64 (at_ zs (1 + 3 * n)), .int .i64 (at_ zs (1 + 3 * n + 1)), .int .i64 (at_ zs (1 + 3 * n + 2))]) := if_pos hn
    obtain ⟨hn0, hn1⟩ := hn
    obtain ⟨a0, cap, rfl, _⟩ := h.parts
    have HI := hid h
    clear h
    go_enter Try.func23, Try.ntmps23
    go_wp2_with (go_at_call 21; refine (rat_any _ zs _ _ (HI.out.below ?_)).mono ?_; (focus go_grown); rintro e w' ⟨rfl, rfl⟩)
    go_returns
    exact ⟨by rw [H.out]; simp only [show 1 + 3 * n + 1 = 2 + 3 * n by omega, show 1 + 3 * n + 2 = 3 + 3 * n by omega], by go_grown⟩
  · have H : Hid (draws zs n = .agg #[.int .i64 99, .int .i64 99, .int .i64 99]) := if_neg hn
    obtain ⟨a0, cap, rfl, _⟩ := h.parts
    clear h
    by_cases h0 : n < 0
    · clear hn
      go_enter Try.func23, Try.ntmps23
      go_wp2
      go_returns
      exact ⟨by rw [H.out], by go_grown⟩
    · have h1 : (zs.length : Int) < n := by omega
      clear hn
      go_enter Try.func23, Try.ntmps23
      go_wp2
      go_returns
      exact ⟨by rw [H.out], by go_grown⟩

end C15
end Go.Proofs.Ytefaegoajjcfjaa
