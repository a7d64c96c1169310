/- What arguments of strings, and of lists of strings, read as: no program in sight. -/
import Derived.Test.YthmopkaecbebpaaBase2
namespace Go.Peri
open Go.RowKit

theorem strs_of_rd {w : World} {B by_ : Nat} {v : Value} (h : Rd w B (.slice by_ .str) [v]) : ∃ ss : List ByteArray, Vals (· < B) w v (ss.map Value.string) ∧ ss.length * by_ ≤ 140737488351232 ∧ ∀ s ∈ ss, s.size ≤ maxLen := by
  obtain ⟨a, len, cap, hv, h1, h2, h3, h4, xs, h5, h6, h7⟩ := h
  cases hv
  have hz : ∀ x ∈ xs, ∃ s : ByteArray, x = [.string s] ∧ s.size ≤ maxLen := fun x hx => by
    obtain ⟨s, e, g, _⟩ := (h6 x hx).2; exact ⟨s, e, g⟩
  have hx : xs = (xs.map (fun x => match x with | [.string s] => s | _ => ByteArray.empty)).map (fun s => [Value.string s]) := by
    rw [List.map_map]
    conv => lhs; rw [← List.map_id xs]
    refine List.map_congr_left fun x hx => ?_
    obtain ⟨n, rfl, _⟩ := hz x hx
    rfl
  generalize hzs : xs.map (fun x => match x with | [.string s] => s | _ => ByteArray.empty) = zs at hx
  have hl : zs.length = len := by rw [← hzs, List.length_map, h5]
  refine ⟨zs, ⟨a, cap, by rw [List.length_map, hl], by rw [List.length_map, hl]; exact h1, h2, h4, ?_⟩, ?_, ?_⟩
  · rcases h7 with h7 | ⟨b, off, e1, e2, e3⟩
    · left; rw [h7] at hl; rw [List.length_eq_zero_iff.1 hl]; rfl
    · refine .inr ⟨b, off, e1, e2, fun i hi => ?_⟩
      rw [List.length_map, hl] at hi
      have := e3 i 0 hi (by simp [Ty.size])
      simp only [Ty.size, Nat.mul_one, Nat.add_zero] at this
      rw [this, hx]
      have hi' : i < zs.length := by omega
      simp [List.getD, hi']
  · rw [hl]; exact Nat.le_trans (Nat.mul_le_mul_right _ h1) h3
  · intro z hz'
    rw [← hzs] at hz'
    obtain ⟨x, hx, rfl⟩ := List.mem_map.1 hz'
    obtain ⟨n, rfl, hw⟩ := hz x hx
    exact hw
theorem strs_of_arg {w : World} {B by_ : Nat} {v : Value} (h : Arg w B (.slice by_ .str) v) : ∃ ss : List ByteArray, Vals (· < B) w v (ss.map Value.string) ∧ ss.length * by_ ≤ 140737488351232 ∧ ∀ s ∈ ss, s.size ≤ maxLen := strs_of_rd h

/-- A slice argument of one-cell elements. -/
theorem ones_of_arg {w : World} {B by_ : Nat} {e : Ty} {v : Value} (he : e.size = 1) (h : Arg w B (.slice by_ e) v) : ∃ vs : List Value, Vals (· < B) w v vs ∧ vs.length * by_ ≤ 140737488351232 ∧ ∀ i, i < vs.length → Rd w B e [vs.getD i undef] := by
  obtain ⟨a, len, cap, hv, h1, h2, h3, h4, xs, h5, h6, h7⟩ := h
  cases hv
  refine ⟨xs.map (fun x => x.getD 0 undef), ⟨a, cap, by rw [List.length_map, h5], by rw [List.length_map, h5]; exact h1, h2, h4, ?_⟩, ?_, ?_⟩
  · rcases h7 with h7 | ⟨b, off, e1, e2, e3⟩
    · left; rw [h7] at h5; rw [List.length_eq_zero_iff.1 h5]; rfl
    · refine .inr ⟨b, off, e1, e2, fun i hi => ?_⟩
      rw [List.length_map, h5] at hi
      have := e3 i 0 hi (by omega)
      rw [he, Nat.mul_one, Nat.add_zero] at this
      rw [this]
      have hi' : i < xs.length := by omega
      simp [List.getD, hi']
  · rw [List.length_map, h5]; exact Nat.le_trans (Nat.mul_le_mul_right _ h1) h3
  · intro i hi
    rw [List.length_map] at hi
    have := h6 (xs[i]) (List.getElem_mem hi)
    obtain ⟨g1, g2⟩ := this
    rw [he] at g1
    have e1 : (xs.map (fun x => x.getD 0 undef)).getD i undef = (xs[i]).getD 0 undef := by simp [List.getD, hi]
    rw [e1]
    match hx : xs[i], g1 with
    | [u], _ => rw [hx] at g2; exact g2
end Go.Peri
