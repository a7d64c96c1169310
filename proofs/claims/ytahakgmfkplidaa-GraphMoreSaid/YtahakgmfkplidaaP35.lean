/- Plain law of layer 34 (prog): the document's check of an operation is the program's. -/
import Derived.Test.YtahakgmfkplidaaE35
namespace Go.Proofs.Ytahakgmfkplidaa
open Go.RowKit Go.Peri
namespace C35
open C11 (pathOk)
/-- The document's check. -/
def opE (o : Opr) : Int :=
  if (decide (o.kind < 1) || decide (7 < o.kind)) = true then 2
  else if (((o.kind == 5) || (o.kind == 7)) && !o.a.toList.isEmpty || (((o.kind != 3) && (o.kind != 6)) && !o.b.toList.isEmpty || ((o.kind != 7) && (o.n != 0)))) = true then 2
  else if ((o.kind != 1) && (!((o.kind == 5) || (o.kind == 7)) && !Hd.nameOk o.a)) = true then 7
  else if ((o.kind == 4) && tracedB o.a) = true then 7
  else if ((o.kind == 1) && !Hd.valueOk o.a || (o.kind == 3) && !Hd.valueOk o.b) = true then 15
  else if ((o.kind == 6) && !pathOk o.b || (o.kind == 7) && (decide (o.n < 100) || decide (599 < o.n))) = true then 12
  else 0
theorem opE_chk (o : Opr) : opE o = chk o := by
  obtain ⟨k, a, b, n⟩ := o
  by_cases hk : 1 ≤ k ∧ k ≤ 7
  · obtain rfl | rfl | rfl | rfl | rfl | rfl | rfl : k = 1 ∨ k = 2 ∨ k = 3 ∨ k = 4 ∨ k = 5 ∨ k = 6 ∨ k = 7 := by omega
    all_goals
      simp only [opE, chk, argB, shOk, shA, shB, shN, fitE]
      generalize a.toList.isEmpty = x1
      generalize b.toList.isEmpty = x2
      generalize (n != 0) = x3
      generalize Hd.nameOk a = x4
      generalize Hd.nameOk b = x5
      generalize Hd.valueOk a = x6
      generalize Hd.valueOk b = x7
      generalize pathOk a = x8
      generalize pathOk b = x9
      generalize tracedB a = y1
      generalize decide (n < 100) = y2
      generalize decide (599 < n) = y3
      cases x1 <;> cases x2 <;> cases x3 <;> cases x4 <;> cases x6 <;> cases x7 <;> cases x9 <;> cases y1 <;> simp
  · have h1 : (decide (k < 1) || decide (7 < k)) = true := by
      rw [Bool.or_eq_true, decide_eq_true_eq, decide_eq_true_eq]
      omega
    have h2 : decide (1 ≤ k ∧ k ≤ 7) = false := decide_eq_false hk
    unfold opE chk argB shOk
    simp only [h1, h2, Bool.not_false, Bool.true_or, if_true]
end C35
end Go.Proofs.Ytahakgmfkplidaa
