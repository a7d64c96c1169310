/- Moves of a wheel as plain data. No program in sight. -/
import Derived.Test.YthmopkaecbebpaaSp
namespace Go.Peri
open Go.RowKit
/-- Something is set, or, with ticks 0, a step. -/
structure Wm where
  id : Int
  ticks : Int
namespace Wm
def enc (m : Wm) : List Value := [.int .i64 m.id, .int .i64 m.ticks]
theorem enc_length (m : Wm) : m.enc.length = 2 := rfl
def ty : Ty := .cons (.int .i64) (.cons (.int .i64) .nil)
structure Wf (m : Wm) : Prop where
  id : Sp.I64 m.id
  ticks : Sp.I64 m.ticks
theorem of_rd {w : World} {B : Nat} {cs : List Value} (h : Rd w B ty cs) : ∃ m : Wm, cs = m.enc ∧ Wf m := by
  obtain ⟨_, _, rfl, _, a1, h⟩ := h
  obtain ⟨_, _, rfl, _, a2, h⟩ := h
  obtain ⟨i, rfl, g1⟩ := Sp.rd_i64 a1
  obtain ⟨t, rfl, g2⟩ := Sp.rd_i64 a2
  have e1 : (_ : List Value) = [] := h
  subst e1
  exact ⟨⟨i, t⟩, by simp [enc], ⟨g1, g2⟩⟩
theorem cells {y : Wm} {w : World} {b o : Nat} (h : ∀ j u, y.enc[j]? = some u → w.cell? ⟨b, o + j, none⟩ = some u) :
    w.cell? ⟨b, o, none⟩ = some (.int .i64 y.id) ∧ w.cell? ⟨b, o + 1, none⟩ = some (.int .i64 y.ticks) := ⟨h 0 _ rfl, h 1 _ rfl⟩
end Wm
theorem wmoves_of_arg {w : World} {B : Nat} {v : Value} (h : Arg w B (.slice 16 Wm.ty) v) : ∃ l : List Wm, RowsOf (· < B) Wm.enc 2 w v l ∧ (∀ m ∈ l, m.Wf) := by
  obtain ⟨l, h1, h2, h3⟩ := rows_of_arg (enc := Wm.enc) (wf := Wm.Wf) (e := Wm.ty) (fun _ => rfl) (fun cs hc => Wm.of_rd hc) h
  exact ⟨l, h1, h3⟩
end Go.Peri
