/- Plain law of layer 30 (store): what is stored of one trace. No program in sight. -/
import Derived.Test.YtdamnbldimompaaP30
namespace Go.Peri
namespace Kp
theorem gone_le {l : List Kp} {r : Int} (h : Inv l r) (s : Sp) : gone l r s ≤ 1 := by
  unfold gone
  split
  · omega
  · have := h.len
    omega
/-- All spans, those of one trace alone, and how many traces are gone, behind some spans. -/
structure Apart (hi lo : Nat) (kl ko : List Kp) (g k : Nat) : Prop where
  inv : Inv kl 32
  invo : Inv ko 32
  one : ko.length ≤ 1
  of : ∀ x ∈ ko, x.hi = hi ∧ x.lo = lo
  le : g ≤ k
  eq : g = 0 → has kl hi lo = has ko hi lo ∧ get kl hi lo = get ko hi lo
theorem apart_nil (hi lo : Nat) : Apart hi lo [] [] 0 0 := ⟨inv_nil _, inv_nil _, Nat.zero_le _, by simp, Nat.le_refl _, fun _ => ⟨rfl, rfl⟩⟩
theorem apart_far {hi lo : Nat} {kl ko : List Kp} {g k : Nat} (h : Apart hi lo kl ko g k) (s : Sp) (hs : ¬ (s.hi = hi ∧ s.lo = lo)) : Apart hi lo (add kl 32 s) ko (g + gone kl 32 s) (k + 1) := by
  refine ⟨inv_add h.inv s, h.invo, h.one, h.of, by have := gone_le h.inv s; have := h.le; omega, fun e => ?_⟩
  obtain ⟨e1, e2⟩ := get_add (l := kl) (r := 32) (s := s) (by omega) hi lo
  rw [e1, e2, if_neg hs, decide_eq_false hs, Bool.or_false]
  exact h.eq (by omega)
theorem apart_hit {hi lo : Nat} {kl ko : List Kp} {g k : Nat} (h : Apart hi lo kl ko g k) (s : Sp) (hs : s.hi = hi ∧ s.lo = lo) : Apart hi lo (add kl 32 s) (add ko 32 s) (g + gone kl 32 s) (k + 1) := by
  have hg : gone ko 32 s = 0 := by
    unfold gone
    split
    · rfl
    · have := h.one
      show ko.length + 1 - roomR 32 = 0
      have : roomR 32 = 32 := rfl
      omega
  obtain ⟨o1, o2⟩ := get_add (l := ko) (r := 32) (s := s) hg hi lo
  refine ⟨inv_add h.inv s, inv_add h.invo s, ?_, ?_, by have := gone_le h.inv s; have := h.le; omega, fun e => ?_⟩
  · by_cases hh : has ko s.hi s.lo = true
    · rw [len_has hh]; exact h.one
    · have hf : has ko s.hi s.lo = false := by simpa using hh
      have hko : ko = [] := by
        rcases ko with _ | ⟨x, l⟩
        · rfl
        · exfalso
          have hx := h.of x (by simp)
          have : ix (x :: l) s.hi s.lo < (x :: l).length := by
            unfold ix
            rw [List.findIdx_lt_length]
            exact ⟨x, by simp, by rw [decide_eq_true_eq, hs.1, hs.2]; exact hx⟩
          exact hh (decide_eq_true this)
      subst hko
      have := len_not (r := 32) hf
      simp only [List.length_nil] at this
      omega
  · intro x hx
    unfold add at hx
    split at hx
    · rename_i hi2
      rcases List.mem_or_eq_of_mem_set hx with hx | rfl
      · exact h.of x hx
      · rw [put_hi, put_lo]
        exact h.of _ (List.getElem_mem hi2)
    · rcases List.mem_append.1 (List.mem_of_mem_drop hx) with hx | hx
      · exact h.of x hx
      · rw [List.mem_singleton.1 hx]
        exact hs
  · obtain ⟨e1, e2⟩ := get_add (l := kl) (r := 32) (s := s) (by omega) hi lo
    obtain ⟨q1, q2⟩ := h.eq (by omega)
    rw [e1, e2, o1, o2, q1, q2]
    exact ⟨rfl, rfl⟩
theorem inv_lens {l : List Kp} {r : Int} (h : Inv l r) : l.length ≤ 1000 ∧ ∀ k ∈ l, k.sp.length ≤ 1000000 := by
  have h1 := h.len
  have h2 := room_hi r
  exact ⟨by omega, fun k hk => by have := (h.some k hk).2; omega⟩
end Kp
end Go.Peri
