/- A move (a span put, or so many taken) as plain data. No program in sight. -/
import Derived.Test.YtefaegoajjcfjaaA25
namespace Go.Peri
open Go.RowKit
structure Mv where
  sp : Sp
  take : Int
namespace Mv
def enc (m : Mv) : List Value := m.sp.enc ++ [.int .i64 m.take]
theorem enc_length (m : Mv) : m.enc.length = 12 := rfl
def ty : Ty := .cons Sp.ty (.cons (.int .i64) .nil)
structure Wf (m : Mv) : Prop where
  sp : m.sp.Wf
  take : Sp.I64 m.take
theorem of_rd {w : World} {B : Nat} {cs : List Value} (h : Rd w B ty cs) : ∃ m : Mv, cs = m.enc ∧ Wf m := by
  obtain ⟨_, _, rfl, _, a1, h⟩ := h
  obtain ⟨_, _, rfl, _, a2, h⟩ := h
  obtain ⟨s, rfl, g1⟩ := Sp.of_rd a1
  obtain ⟨n, rfl, g2⟩ := Sp.rd_i64 a2
  have e1 : (_ : List Value) = [] := h
  subst e1
  exact ⟨⟨s, n⟩, by simp [enc], ⟨g1, g2⟩⟩
theorem cells {y : Mv} {w : World} {b o : Nat} (h : ∀ j u, y.enc[j]? = some u → w.cell? ⟨b, o + j, none⟩ = some u) :
    w.cell? ⟨b, o, none⟩ = some (.int .u64 y.sp.hi) ∧ w.cell? ⟨b, o + 1, none⟩ = some (.int .u64 y.sp.lo) ∧ w.cell? ⟨b, o + 2, none⟩ = some (.int .u64 y.sp.id) ∧ w.cell? ⟨b, o + 3, none⟩ = some (.int .u64 y.sp.up) ∧ w.cell? ⟨b, o + 4, none⟩ = some (.string y.sp.name) ∧ w.cell? ⟨b, o + 5, none⟩ = some (.int .i64 y.sp.status) ∧ w.cell? ⟨b, o + 6, none⟩ = some (.int .i64 y.sp.seq) ∧ w.cell? ⟨b, o + 7, none⟩ = some (.int .i64 y.sp.kids) ∧ w.cell? ⟨b, o + 8, none⟩ = some (.bool y.sp.shadow) ∧ w.cell? ⟨b, o + 9, none⟩ = some (.int .i64 y.sp.start) ∧ w.cell? ⟨b, o + 10, none⟩ = some (.int .i64 y.sp.stop) ∧ w.cell? ⟨b, o + 11, none⟩ = some (.int .i64 y.take) :=
  ⟨h 0 _ rfl, h 1 _ rfl, h 2 _ rfl, h 3 _ rfl, h 4 _ rfl, h 5 _ rfl, h 6 _ rfl, h 7 _ rfl, h 8 _ rfl, h 9 _ rfl, h 10 _ rfl, h 11 _ rfl⟩
end Mv
theorem moves_of_arg {w : World} {B : Nat} {v : Value} (h : Arg w B (.slice 104 Mv.ty) v) : ∃ l : List Mv, RowsOf (· < B) Mv.enc 12 w v l ∧ (∀ m ∈ l, m.Wf) := by
  obtain ⟨l, h1, h2, h3⟩ := rows_of_arg (enc := Mv.enc) (wf := Mv.Wf) (e := Mv.ty) (fun _ => rfl) (fun cs hc => Mv.of_rd hc) h
  exact ⟨l, h1, h3⟩
end Go.Peri
