/- Traces that are stored, whose spans lie in memory of their own. No program in sight. -/
import Derived.Test.YtdamnbldimompaaP30
import Derived.Test.YtdamnbldimompaaCl
namespace Go.Peri
open Go.RowKit
/-- A trace that is stored: its spans lie where pa says. -/
structure Kq where
  hi : Nat
  lo : Nat
  pa : Option Addr
  pcap : Nat
  sp : List Sp
  spilled : Bool
  clash : Bool
instance : Inhabited Kq := ⟨⟨0, 0, none, 0, [], false, false⟩⟩
namespace Kq
def enc (k : Kq) : List Value := [.int .u64 k.hi, .int .u64 k.lo, .slice k.pa k.sp.length k.pcap, .bool k.spilled, .bool k.clash]
theorem enc_length (k : Kq) : k.enc.length = 5 := rfl
def core (k : Kq) : Kp := ⟨k.hi, k.lo, k.sp, k.spilled, k.clash⟩
def At (p : Nat → Prop) (w : World) (k : Kq) : Prop := RowsOf p Sp.enc 11 w (.slice k.pa k.sp.length k.pcap) k.sp
theorem At.imp {p q : Nat → Prop} {w : World} {k : Kq} (h : At p w k) (hpq : ∀ b, p b → q b) : At q w k := RowsOf.imp h hpq
theorem At.only {p : Nat → Prop} {S : List Nat} {w w' : World} {k : Kq} (h : At p w k) (ho : Only S w w') (hp : ∀ b, p b → b < w.heap.size ∧ b ∉ S) : At p w' k := RowsOf.only h ho hp
theorem At.below {p : Nat → Prop} {B : Nat} {w w' : World} {k : Kq} (h : At p w k) (ho : Below B w w') (hp : ∀ b, p b → b < B) : At p w' k := RowsOf.below h ho hp
def ty : Ty := .cons (.cons (.int .u64) (.cons (.int .u64) .nil)) (.cons (.slice 96 Sp.ty) (.cons .bool (.cons .bool .nil)))
structure Wf (w : World) (B : Nat) (k : Kq) : Prop where
  rows : RowsOf (· < B) Sp.enc 11 w (.slice k.pa k.sp.length k.pcap) k.sp
  len : k.sp.length * 96 ≤ 140737488351232
theorem Wf.below {w w' : World} {B : Nat} {k : Kq} (h : Wf w B k) (hb : Below B w w') : Wf w' B k := ⟨h.rows.below hb (fun _ h => h), h.len⟩
theorem of_rd {w : World} {B : Nat} {cs : List Value} (h : Rd w B ty cs) : ∃ k : Kq, cs = k.enc ∧ Wf w B k := by
  obtain ⟨_, _, rfl, _, h1, h⟩ := h
  obtain ⟨_, _, rfl, _, a1, h1⟩ := h1
  obtain ⟨_, _, rfl, _, a2, h1⟩ := h1
  obtain ⟨c1, _, rfl, hl1, a3, h⟩ := h
  obtain ⟨_, _, rfl, _, a4, h⟩ := h
  obtain ⟨_, _, rfl, _, a5, h⟩ := h
  obtain ⟨hi, rfl, _⟩ := Sp.rd_u64 a1
  obtain ⟨lo, rfl, _⟩ := Sp.rd_u64 a2
  obtain ⟨spilled, rfl⟩ := a4
  obtain ⟨clash, rfl⟩ := a5
  have e1 : (_ : List Value) = [] := h1
  have e2 : (_ : List Value) = [] := h
  subst e1 e2
  obtain ⟨v1, rfl⟩ : ∃ v, c1 = [v] := by
    match c1, hl1 with
    | [v], _ => exact ⟨v, rfl⟩
  obtain ⟨l, k1, k2, _⟩ := rows_of_arg (enc := Sp.enc) (wf := fun _ => True) (e := Sp.ty) (fun _ => rfl) (fun cs hc => (Sp.of_rd hc).imp fun _ h => ⟨h.1, trivial⟩) (v := v1) a3
  obtain ⟨a, cap, rfl⟩ : ∃ a cap, v1 = .slice a l.length cap := by
    obtain ⟨a, cap, e, _⟩ := k1
    exact ⟨a, cap, e⟩
  exact ⟨⟨hi, lo, a, cap, l, spilled, clash⟩, rfl, ⟨k1, k2⟩⟩
theorem cells {y : Kq} {w : World} {b o : Nat} (h : ∀ j u, y.enc[j]? = some u → w.cell? ⟨b, o + j, none⟩ = some u) :
    w.cell? ⟨b, o, none⟩ = some (.int .u64 y.hi) ∧ w.cell? ⟨b, o + 1, none⟩ = some (.int .u64 y.lo) ∧ w.cell? ⟨b, o + 2, none⟩ = some (.slice y.pa y.sp.length y.pcap) ∧ w.cell? ⟨b, o + 3, none⟩ = some (.bool y.spilled) ∧ w.cell? ⟨b, o + 4, none⟩ = some (.bool y.clash) :=
  ⟨h 0 _ rfl, h 1 _ rfl, h 2 _ rfl, h 3 _ rfl, h 4 _ rfl⟩
theorem one (l : List Kq) : ∀ u ∈ l.flatMap Kq.enc, u.oneCell' = true := by
  intro u hu
  obtain ⟨o, _, ho⟩ := List.mem_flatMap.1 hu
  simp only [Kq.enc, List.mem_cons, List.not_mem_nil, or_false] at ho
  rcases ho with rfl | rfl | rfl | rfl | rfl <;> rfl
def few (l : List Kq) : Bool := decide (l.length ≤ 60) && l.all (fun k => decide (k.sp.length ≤ 100))
theorem few_len {l : List Kq} (h : few l = true) : l.length ≤ 60 := by
  unfold few at h
  rw [Bool.and_eq_true] at h
  exact of_decide_eq_true h.1
theorem few_sp {l : List Kq} (h : few l = true) : ∀ k ∈ l, k.sp.length ≤ 100 := by
  unfold few at h
  rw [Bool.and_eq_true, List.all_eq_true] at h
  exact fun k hk => of_decide_eq_true (h.2 k hk)
end Kq
theorem kepts_of_arg {w : World} {B : Nat} {v : Value} (h : Arg w B (.slice 48 Kq.ty) v) : ∃ l : List Kq, RowsOf (· < B) Kq.enc 5 w v l ∧ l.length * 48 ≤ 140737488351232 ∧ (∀ x ∈ l, x.Wf w B) := by
  obtain ⟨l, h1, h2, h3⟩ := rows_of_arg (enc := Kq.enc) (wf := Kq.Wf w B) (e := Kq.ty) (fun _ => rfl) (fun cs hc => Kq.of_rd hc) h
  exact ⟨l, h1, h2, h3⟩
end Go.Peri
