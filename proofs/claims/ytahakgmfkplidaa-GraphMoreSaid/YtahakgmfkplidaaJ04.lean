/- Walks of layer 4 (head): headers with just one of a name; no condition. -/
import Derived.Test.YtahakgmfkplidaaH04
namespace Go.Peri
open Go.RowKit
theorem RowsOf.takeN {α : Type} {p : Nat → Prop} {enc : α → List Value} {k : Nat} {w : World} {a : Option Addr} {n cap : Nat} {l : List α} (h : RowsOf p enc k w (.slice a n cap) l) (m : Nat) (hm : m ≤ n) : RowsOf p enc k w (.slice a m cap) (l.take m) := by
  obtain ⟨a', cap', e, h2, h3, h4, h5⟩ := h
  cases e
  refine ⟨a, cap, ?_, by rw [List.length_take]; omega, h3, h4, ?_⟩
  · rw [List.length_take, Nat.min_eq_left hm]
  · refine h5.imp (fun e => by rw [e]; simp) ?_
    rintro ⟨b, off, g1, g2, g3⟩
    refine ⟨b, off, g1, g2, fun i hi j u hu => ?_⟩
    rw [List.length_take] at hi
    rw [List.getElem_take] at hu
    exact g3 i (by omega) j u hu
theorem RowsOf.dropN {α : Type} {p : Nat → Prop} {enc : α → List Value} {k : Nat} {w : World} {b off n cap : Nat} {l : List α} (h : RowsOf p enc k w (.slice (some ⟨b, off, none⟩) n cap) l) (m : Nat) (hm : m ≤ n) : RowsOf p enc k w (.slice (some ⟨b, off + m * k, none⟩) (n - m) (cap - m)) (l.drop m) := by
  obtain ⟨a', cap', e, h2, h3, h4, h5⟩ := h
  cases e
  refine ⟨_, _, by rw [List.length_drop], by rw [List.length_drop]; omega, by omega, by simp, ?_⟩
  refine h5.imp (fun e => by rw [e]; simp) ?_
  rintro ⟨b', off', g1, g2, g3⟩
  cases g1
  refine ⟨b, off + m * k, rfl, g2, fun i hi j u hu => ?_⟩
  rw [List.length_drop] at hi
  rw [List.getElem_drop] at hu
  have := g3 (m + i) (by omega) j u hu
  rw [← this]
  congr 2
  rw [Nat.add_mul]
  omega
end Go.Peri
namespace Go.Proofs.Ytahakgmfkplidaa
open Go.RowKit Go.Peri
namespace C04
end C04
end Go.Proofs.Ytahakgmfkplidaa
