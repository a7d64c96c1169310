/- Walks of layer 4 (head): lists alike; few headers; no condition. -/
import Derived.Test.YthmopkaecbebpaaD04
namespace Go.Peri
namespace Hd
def fewB (h : Hd) : Bool := decide (h.name.size + h.value.size ≤ 400)
def few (l : List Hd) : Bool := decide (l.length ≤ 60) && l.all fewB
theorem few_len {l : List Hd} (h : few l = true) : l.length ≤ 60 := by
  unfold few at h
  rw [Bool.and_eq_true] at h
  exact of_decide_eq_true h.1
theorem few_mem {l : List Hd} (h : few l = true) : ∀ x ∈ l, x.name.size + x.value.size ≤ 400 := by
  unfold few at h
  rw [Bool.and_eq_true, List.all_eq_true] at h
  exact fun x hx => of_decide_eq_true (h.2 x hx)
end Hd
end Go.Peri
namespace Go.Proofs.Ythmopkaecbebpaa
open Go.RowKit Go.Peri
namespace C04
theorem eqHd (a b : Hd) (w : World) : (Op.equalIn 10000 189 (.agg #[.string a.name, .string a.value]) (.agg #[.string b.name, .string b.value])).run Try.prog w = .ok (decide (a = b)) w := by
  rw [show (10000 : Nat) = 9999 + 1 from rfl, run_equalIn_struct w 9999 189 _ _ (by kernel_rfl) (by kernel_rfl)]
  simp only [Program.fieldsOf, Try.underlying189, Op.eqFields]
  go_simp
  have inj : ∀ x y : ByteArray, x.toList = y.toList → x = y := fun x y h => Go.WideShapes.bytes_inj (by rw [← ByteArray.toList_eq, ← ByteArray.toList_eq, h])
  by_cases h : a = b
  · subst h; simp
  · rw [decide_eq_false h]
    have ext : a.name.toList = b.name.toList → a.value.toList = b.value.toList → a = b := by
      intro h1 h2
      have h1 := inj _ _ h1
      have h2 := inj _ _ h2
      obtain ⟨⟩ := a
      obtain ⟨⟩ := b
      simp_all
    repeat' (split <;> try rfl)
    all_goals exact absurd (ext (by assumption) (by assumption)) h

end C04
end Go.Proofs.Ythmopkaecbebpaa
