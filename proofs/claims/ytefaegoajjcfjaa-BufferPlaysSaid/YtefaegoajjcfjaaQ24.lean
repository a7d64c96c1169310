/- Slices cut, and one less as plain data (opens); no condition. -/
import Derived.Test.YtefaegoajjcfjaaG24
namespace Go.Peri
open Go.RowKit
theorem RowsOf.take {α : Type} {p : Nat → Prop} {enc : α → List Value} {k : Nat} {w : World} {a : Option Addr} {n cap : Nat} {l : List α} (h : RowsOf p enc k w (.slice a n cap) l) (m : Nat) (hm : m ≤ n) : RowsOf p enc k w (.slice a m cap) (l.take m) := by
  obtain ⟨a', cap', e, h2, h3, h4, h5⟩ := h
  cases e
  refine ⟨a, cap, ?_, by rw [List.length_take]; omega, h3, h4, ?_⟩
  · rw [List.length_take, Nat.min_eq_left hm]
  · refine h5.imp (fun e => by rw [e]; simp) ?_
    rintro ⟨b, off, g1, g2, g3⟩
    refine ⟨b, off, g1, g2, fun i hi j u hu => ?_⟩
    rw [List.length_take] at hi
    rw [List.getElem_take] at hu
    exact g3 i (by omega) j u hu
theorem RowsOf.drop {α : Type} {p : Nat → Prop} {enc : α → List Value} {k : Nat} {w : World} {b off n cap : Nat} {l : List α} (h : RowsOf p enc k w (.slice (some ⟨b, off, none⟩) n cap) l) (m : Nat) (hm : m ≤ n) : RowsOf p enc k w (.slice (some ⟨b, off + m * k, none⟩) (n - m) (cap - m)) (l.drop m) := by
  obtain ⟨a', cap', e, h2, h3, h4, h5⟩ := h
  cases e
  refine ⟨_, _, by rw [List.length_drop], by rw [List.length_drop]; omega, by omega, by simp, ?_⟩
  refine h5.imp (fun e => by rw [e]; simp) ?_
  rintro ⟨b', off', g1, g2, g3⟩
  cases g1
  refine ⟨b, off + m * k, rfl, g2, fun i hi j u hu => ?_⟩
  rw [List.length_drop] at hi
  rw [List.getElem_drop] at hu
  have := g3 (m + i) (by omega) j u hu
  rw [← this]
  congr 2
  rw [Nat.add_mul]
  omega
theorem RowsOf.dropEnd {α : Type} (p : Nat → Prop) (enc : α → List Value) (k : Nat) (w : World) (a : Addr) (l : List α) (m : Nat) (hm : l.length ≤ m) : RowsOf p enc k w (.slice (some a) (l.length - m) 0) (l.drop m) := by
  have hl : l.drop m = [] := List.drop_eq_nil_of_le hm
  rw [hl]
  exact ⟨_, _, by rw [show l.length - m = 0 by omega]; rfl, by simp, by simp, by simp, .inl rfl⟩
theorem RowsOf.dropIf {α : Type} {p : Nat → Prop} {enc : α → List Value} {k : Nat} {w : World} {b off n cap : Nat} {l : List α} (h : RowsOf p enc k w (.slice (some ⟨b, off, none⟩) n cap) l) (m : Nat) (hm : m ≤ n) :
    RowsOf p enc k w (.slice (if cap = m then some ⟨b, off, none⟩ else some ⟨b, off + m * k, none⟩) (n - m) (cap - m)) (l.drop m) := by
  by_cases hc : cap = m
  · obtain ⟨a', cap', e, h2, h3, h4, h5⟩ := h
    cases e
    have hl : l.drop m = [] := List.drop_eq_nil_of_le (by omega)
    rw [if_pos hc, hl]
    exact ⟨_, _, by rw [show l.length - m = 0 by omega]; rfl, by simp, by omega, by simp, .inl rfl⟩
  · rw [if_neg hc]
    exact h.drop m hm
end Go.Peri
namespace Go.Proofs.Ytefaegoajjcfjaa
open Go.RowKit Go.Peri
namespace C24

def finR (l : List Opn) (no st ki now : Int) : List Opn × Sp × Int :=
  if h : ix l no < l.length then (l.take (ix l no) ++ l.drop (ix l no + 1), { l[ix l no].sp with status := st, kids := ki, stop := max now l[ix l no].sp.start }, 0) else ([], sp0, 9)

end C24
end Go.Proofs.Ytefaegoajjcfjaa
