/- Predicates and requests as plain data, and what arguments read as. No program in sight. -/
import Derived.Test.YthmopkaecbebpaaHd
import Derived.Test.YthmopkaecbebpaaA24
namespace Go.Peri
open Go.RowKit
/-- A predicate. -/
structure Prd where
  kind : Int
  name : ByteArray
  value : ByteArray
namespace Prd
def enc (x : Prd) : List Value := [.int .i64 x.kind, .string x.name, .string x.value]
theorem enc_length (x : Prd) : x.enc.length = 3 := rfl
def ty : Ty := .cons (.int .i64) (.cons .str (.cons .str .nil))
structure Wf (x : Prd) : Prop where
  kind : Sp.I64 x.kind
  name : x.name.size ≤ 140737488351232
  value : x.value.size ≤ 140737488351232
theorem of_rd {w : World} {B : Nat} {cs : List Value} (h : Rd w B ty cs) : ∃ x : Prd, cs = x.enc ∧ Wf x := by
  obtain ⟨_, _, rfl, _, a0, h⟩ := h
  obtain ⟨_, _, rfl, _, a1, h⟩ := h
  obtain ⟨_, _, rfl, _, a2, h⟩ := h
  obtain ⟨k, rfl, g0⟩ := Sp.rd_i64 a0
  obtain ⟨n, rfl, g1⟩ := Hd.rd_str a1
  obtain ⟨v, rfl, g2⟩ := Hd.rd_str a2
  have e1 : (_ : List Value) = [] := h
  subst e1
  exact ⟨⟨k, n, v⟩, rfl, ⟨g0, g1, g2⟩⟩
theorem cells {y : Prd} {w : World} {b o : Nat} (h : ∀ j u, y.enc[j]? = some u → w.cell? ⟨b, o + j, none⟩ = some u) :
    w.cell? ⟨b, o, none⟩ = some (.int .i64 y.kind) ∧ w.cell? ⟨b, o + 1, none⟩ = some (.string y.name) ∧ w.cell? ⟨b, o + 2, none⟩ = some (.string y.value) := ⟨h 0 _ rfl, h 1 _ rfl, h 2 _ rfl⟩
theorem one (l : List Prd) : ∀ u ∈ l.flatMap Prd.enc, u.oneCell' = true := by
  intro u hu
  obtain ⟨o, _, ho⟩ := List.mem_flatMap.1 hu
  simp only [Prd.enc, List.mem_cons, List.not_mem_nil, or_false] at ho
  rcases ho with rfl | rfl | rfl <;> rfl
def fewB (x : Prd) : Bool := decide (x.name.size + x.value.size ≤ 400)
def few (l : List Prd) : Bool := decide (l.length ≤ 20) && l.all fewB
theorem few_len {l : List Prd} (h : few l = true) : l.length ≤ 20 := by
  unfold few at h
  rw [Bool.and_eq_true] at h
  exact of_decide_eq_true h.1
theorem few_mem {l : List Prd} (h : few l = true) : ∀ x ∈ l, x.name.size + x.value.size ≤ 400 := by
  unfold few at h
  rw [Bool.and_eq_true, List.all_eq_true] at h
  exact fun x hx => of_decide_eq_true (h.2 x hx)
end Prd
namespace Hd
def few40 (l : List Hd) : Bool := decide (l.length ≤ 40) && l.all (fun h => decide (h.name.size + h.value.size ≤ 400))
end Hd
theorem preds_of_arg {w : World} {B : Nat} {v : Value} (h : Arg w B (.slice 40 Prd.ty) v) : ∃ l : List Prd, RowsOf (· < B) Prd.enc 3 w v l ∧ l.length * 40 ≤ 140737488351232 ∧ (∀ x ∈ l, x.Wf) := by
  obtain ⟨l, h1, h2, h3⟩ := rows_of_arg (enc := Prd.enc) (wf := Prd.Wf) (e := Prd.ty) (fun _ => rfl) (fun cs hc => Prd.of_rd hc) h
  exact ⟨l, h1, h2, h3⟩
theorem pred_of_arg {w : World} {B : Nat} {v : Value} (h : Arg w B Prd.ty v) : ∃ x : Prd, v = .agg #[.int .i64 x.kind, .string x.name, .string x.value] ∧ x.Wf := by
  obtain ⟨cs, rfl, h⟩ : ∃ cs, v = .agg cs ∧ Rd w B Prd.ty cs.toList := h
  obtain ⟨s, e, hw⟩ := Prd.of_rd h
  refine ⟨s, ?_, hw⟩
  congr 1
  exact Array.toList_inj.1 e
/-- A request's texts, and its headers. -/
def reqTy : Ty := .cons .str (.cons .str (.cons .str (.cons (.slice 32 Hd.ty) (.cons .str .nil))))
structure ReqV (w : World) (B : Nat) (m h p b : ByteArray) (l : List Hd) (a : Option Addr) (cap : Nat) : Prop where
  rows : RowsOf (· < B) Hd.enc 2 w (.slice a l.length cap) l
  len : l.length * 32 ≤ 140737488351232
  wf : ∀ x ∈ l, x.Wf
  m : m.size ≤ 140737488351232
  h : h.size ≤ 140737488351232
  p : p.size ≤ 140737488351232
  b : b.size ≤ 140737488351232
theorem req_of_rd {w : World} {B : Nat} {cs : List Value} (h : Rd w B reqTy cs) : ∃ (m h p b : ByteArray) (l : List Hd) (a : Option Addr) (cap : Nat), cs = [.string m, .string h, .string p, .slice a l.length cap, .string b] ∧ ReqV w B m h p b l a cap := by
  obtain ⟨_, _, rfl, _, a0, h⟩ := h
  obtain ⟨_, _, rfl, _, a1, h⟩ := h
  obtain ⟨_, _, rfl, _, a2, h⟩ := h
  obtain ⟨c3, _, rfl, hl3, a3, h⟩ := h
  obtain ⟨_, _, rfl, _, a4, h⟩ := h
  obtain ⟨m, rfl, g0⟩ := Hd.rd_str a0
  obtain ⟨hh, rfl, g1⟩ := Hd.rd_str a1
  obtain ⟨p, rfl, g2⟩ := Hd.rd_str a2
  obtain ⟨b, rfl, g4⟩ := Hd.rd_str a4
  have e1 : (_ : List Value) = [] := h
  subst e1
  obtain ⟨v3, rfl⟩ : ∃ v, c3 = [v] := by
    match c3, hl3 with
    | [v], _ => exact ⟨v, rfl⟩
  obtain ⟨l, k1, k2, k3⟩ := heads_of_arg (v := v3) a3
  obtain ⟨a, cap, rfl⟩ : ∃ a cap, v3 = .slice a l.length cap := by
    obtain ⟨a, cap, e, _⟩ := k1
    exact ⟨a, cap, e⟩
  exact ⟨m, hh, p, b, l, a, cap, rfl, ⟨k1, k2, k3, g0, g1, g2, g4⟩⟩
theorem req_of_arg {w : World} {B : Nat} {v : Value} (h : Arg w B reqTy v) : ∃ (m h p b : ByteArray) (l : List Hd) (a : Option Addr) (cap : Nat), v = .agg #[.string m, .string h, .string p, .slice a l.length cap, .string b] ∧ ReqV w B m h p b l a cap := by
  obtain ⟨cs, rfl, h⟩ : ∃ cs, v = .agg cs ∧ Rd w B reqTy cs.toList := h
  obtain ⟨m, hh, p, b, l, a, cap, e, hw⟩ := req_of_rd h
  refine ⟨m, hh, p, b, l, a, cap, ?_, hw⟩
  congr 1
  exact Array.toList_inj.1 e
end Go.Peri
