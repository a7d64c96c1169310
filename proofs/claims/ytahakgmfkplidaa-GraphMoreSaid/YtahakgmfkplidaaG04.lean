/- Walks of layer 4 (head): headers without some names (slices.DeleteFunc); no condition. -/
import Derived.Test.YtahakgmfkplidaaF04
namespace Go.Proofs.Ytahakgmfkplidaa
open Go.RowKit Go.Peri
namespace C04
theorem row2 {w : World} {g : Nat} {cs : Array Value} {t : TypeId} (h : Blk w g cs t) {l : List Hd} {lo hi : Nat} (hx : ∀ q, lo ≤ q → q < hi → cs[q]? = (l.flatMap Hd.enc)[q]?) (k : Nat) (hk : k < l.length) (h1 : lo ≤ k * 2) (h2 : k * 2 + 1 < hi) :
    w.cell? ⟨g, k * 2, none⟩ = some (.string l[k].name) ∧ w.cell? ⟨g, k * 2 + 1, none⟩ = some (.string l[k].value) := by
  refine ⟨?_, ?_⟩
  · rw [h.cell, hx _ h1 (by omega)]
    have := flat_get Hd.enc_length l k hk 0 (by omega)
    rw [Nat.add_zero] at this
    rw [this]; rfl
  · rw [h.cell, hx _ (by omega) h2, flat_get Hd.enc_length l k hk 1 (by omega)]; rfl
/-- A row half worked on: its first places hold A, those from k on what they held. -/
structure Half (g cap m k : Nat) (A l : List Hd) (w : World) : Prop where
  ex : ∃ cs, Blk w g cs 78 ∧ cs.size = cap * 2 ∧ (∀ q, q < m * 2 → cs[q]? = (A.flatMap Hd.enc)[q]?) ∧ (∀ q, k * 2 ≤ q → q < l.length * 2 → cs[q]? = (l.flatMap Hd.enc)[q]?)
  len : A.length = m
theorem Half.set {g cap m k : Nat} {A l : List Hd} {w w' : World} {x : Hd} {cs : Array Value} (hb : Blk w g cs 78) (hs : cs.size = cap * 2) (h1 : ∀ q, q < m * 2 → cs[q]? = (A.flatMap Hd.enc)[q]?) (h2 : ∀ q, k * 2 ≤ q → q < l.length * 2 → cs[q]? = (l.flatMap Hd.enc)[q]?) (hA : A.length = m) (hmk : m < k) (hkc : k ≤ cap)
    (hw : w' = (w.setCell ⟨g, m * 2, none⟩ (.string x.name)).setCell ⟨g, m * 2 + 1, none⟩ (.string x.value)) : Half g cap (m + 1) (k + 1) (A ++ [x]) l w' := by
  subst hw
  refine ⟨⟨_, (hb.set _ _).set _ _, by simpa using hs, fun q hq => ?_, fun q hq hq2 => ?_⟩, by simp [hA]⟩
  · rw [Array.getElem?_setIfInBounds, Array.getElem?_setIfInBounds, List.flatMap_append, List.getElem?_append, flat_length Hd.enc_length, hA]
    by_cases e1 : m * 2 + 1 = q
    · subst e1
      rw [if_pos rfl, if_pos (by simp; omega), if_neg (by omega)]
      have : m * 2 + 1 - m * 2 = 1 := by omega
      rw [this]; rfl
    · rw [if_neg e1]
      by_cases e2 : m * 2 = q
      · subst e2
        rw [if_pos rfl, if_pos (by omega), if_neg (by omega), Nat.sub_self]; rfl
      · rw [if_neg e2, if_pos (by omega)]
        exact h1 q (by omega)
  · rw [Array.getElem?_setIfInBounds, Array.getElem?_setIfInBounds, if_neg (by omega), if_neg (by omega)]
    exact h2 q (by omega) hq2
def DelQ (base g cap : Nat) (A : List Hd) (w : World) (e : Ending) (w' : World) : Prop := e = .returned (.slice (some ⟨g, 0, none⟩) A.length cap) ∧ Only [g] w w' ∧ Hid (w'.ownsRow base 78 2 (.slice (some ⟨g, 0, none⟩) A.length cap) A.length (A.flatMap Hd.enc))
end C04
end Go.Proofs.Ytahakgmfkplidaa
