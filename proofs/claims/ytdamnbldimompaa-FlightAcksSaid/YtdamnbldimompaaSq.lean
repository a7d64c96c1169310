/- Batches under way, whose spans lie in memory of their own. No program in sight. -/
import Derived.Test.YtdamnbldimompaaSp
import Derived.Test.YtdamnbldimompaaCl
namespace Go.Peri
open Go.RowKit
/-- A batch under way: its spans lie where pa says. -/
structure Sq where
  node : Int
  seq : Int
  pa : Option Addr
  pcap : Nat
  sp : List Sp
  tries : Int
  due : Int
instance : Inhabited Sq := ⟨⟨0, 0, none, 0, [], 0, 0⟩⟩
namespace Sq
def enc (k : Sq) : List Value := [.int .i64 k.node, .int .i64 k.seq, .slice k.pa k.sp.length k.pcap, .int .i64 k.tries, .int .i64 k.due]
theorem enc_length (k : Sq) : k.enc.length = 5 := rfl
/-- But for where its spans lie. -/
def core (k : Sq) : Sq := { k with pa := none, pcap := 0 }
theorem core_eq {a b : Sq} (h : a.core = b.core) : a.node = b.node ∧ a.seq = b.seq ∧ a.sp = b.sp ∧ a.tries = b.tries ∧ a.due = b.due := by
  obtain ⟨⟩ := a
  obtain ⟨⟩ := b
  simp only [core, Sq.mk.injEq] at h
  simp only []
  exact ⟨h.1, h.2.1, h.2.2.2.2.1, h.2.2.2.2.2.1, h.2.2.2.2.2.2⟩
theorem core_of {a b : Sq} (h0 : a.node = b.node) (h1 : a.seq = b.seq) (h2 : a.sp = b.sp) (h3 : a.tries = b.tries) (h4 : a.due = b.due) : a.core = b.core := by
  obtain ⟨⟩ := a
  obtain ⟨⟩ := b
  simp only [core, Sq.mk.injEq]
  simp only [] at h0 h1 h2 h3 h4
  exact ⟨h0, h1, trivial, trivial, h2, h3, h4⟩
def At (p : Nat → Prop) (w : World) (k : Sq) : Prop := RowsOf p Sp.enc 11 w (.slice k.pa k.sp.length k.pcap) k.sp
theorem At.imp {p q : Nat → Prop} {w : World} {k : Sq} (h : At p w k) (hpq : ∀ b, p b → q b) : At q w k := RowsOf.imp h hpq
theorem At.only {p : Nat → Prop} {S : List Nat} {w w' : World} {k : Sq} (h : At p w k) (ho : Only S w w') (hp : ∀ b, p b → b < w.heap.size ∧ b ∉ S) : At p w' k := RowsOf.only h ho hp
theorem At.below {p : Nat → Prop} {B : Nat} {w w' : World} {k : Sq} (h : At p w k) (ho : Below B w w') (hp : ∀ b, p b → b < B) : At p w' k := RowsOf.below h ho hp
def ty : Ty := .cons (.cons (.int .i64) (.cons (.int .i64) (.cons (.slice 96 Sp.ty) .nil))) (.cons (.int .i64) (.cons (.int .i64) .nil))
structure Wf (w : World) (B : Nat) (k : Sq) : Prop where
  rows : RowsOf (· < B) Sp.enc 11 w (.slice k.pa k.sp.length k.pcap) k.sp
  len : k.sp.length * 96 ≤ 140737488351232
theorem Wf.below {w w' : World} {B : Nat} {k : Sq} (h : Wf w B k) (hb : Below B w w') : Wf w' B k := ⟨h.rows.below hb (fun _ h => h), h.len⟩
theorem of_rd {w : World} {B : Nat} {cs : List Value} (h : Rd w B ty cs) : ∃ k : Sq, cs = k.enc ∧ Wf w B k := by
  obtain ⟨_, _, rfl, _, h1, h⟩ := h
  obtain ⟨_, _, rfl, _, a1, h1⟩ := h1
  obtain ⟨_, _, rfl, _, a2, h1⟩ := h1
  obtain ⟨c1, _, rfl, hl1, a3, h1⟩ := h1
  obtain ⟨_, _, rfl, _, a4, h⟩ := h
  obtain ⟨_, _, rfl, _, a5, h⟩ := h
  obtain ⟨node, rfl, _⟩ := Sp.rd_i64 a1
  obtain ⟨seq, rfl, _⟩ := Sp.rd_i64 a2
  obtain ⟨tries, rfl, _⟩ := Sp.rd_i64 a4
  obtain ⟨due, rfl, _⟩ := Sp.rd_i64 a5
  have e1 : (_ : List Value) = [] := h1
  have e2 : (_ : List Value) = [] := h
  subst e1 e2
  obtain ⟨v1, rfl⟩ : ∃ v, c1 = [v] := by
    match c1, hl1 with
    | [v], _ => exact ⟨v, rfl⟩
  obtain ⟨l, k1, k2, _⟩ := rows_of_arg (enc := Sp.enc) (wf := fun _ => True) (e := Sp.ty) (fun _ => rfl) (fun cs hc => (Sp.of_rd hc).imp fun _ h => ⟨h.1, trivial⟩) (v := v1) a3
  obtain ⟨a, cap, rfl⟩ : ∃ a cap, v1 = .slice a l.length cap := by
    obtain ⟨a, cap, e, _⟩ := k1
    exact ⟨a, cap, e⟩
  exact ⟨⟨node, seq, a, cap, l, tries, due⟩, rfl, ⟨k1, k2⟩⟩
theorem cells {y : Sq} {w : World} {b o : Nat} (h : ∀ j u, y.enc[j]? = some u → w.cell? ⟨b, o + j, none⟩ = some u) :
    w.cell? ⟨b, o, none⟩ = some (.int .i64 y.node) ∧ w.cell? ⟨b, o + 1, none⟩ = some (.int .i64 y.seq) ∧ w.cell? ⟨b, o + 2, none⟩ = some (.slice y.pa y.sp.length y.pcap) ∧ w.cell? ⟨b, o + 3, none⟩ = some (.int .i64 y.tries) ∧ w.cell? ⟨b, o + 4, none⟩ = some (.int .i64 y.due) :=
  ⟨h 0 _ rfl, h 1 _ rfl, h 2 _ rfl, h 3 _ rfl, h 4 _ rfl⟩
theorem one (l : List Sq) : ∀ u ∈ l.flatMap Sq.enc, u.oneCell' = true := by
  intro u hu
  obtain ⟨o, _, ho⟩ := List.mem_flatMap.1 hu
  simp only [Sq.enc, List.mem_cons, List.not_mem_nil, or_false] at ho
  rcases ho with rfl | rfl | rfl | rfl | rfl <;> rfl
def few (l : List Sq) : Bool := decide (l.length ≤ 30) && l.all (fun k => decide (k.sp.length ≤ 60))
theorem few_len {l : List Sq} (h : few l = true) : l.length ≤ 30 := by
  unfold few at h
  rw [Bool.and_eq_true] at h
  exact of_decide_eq_true h.1
theorem few_sp {l : List Sq} (h : few l = true) : ∀ k ∈ l, k.sp.length ≤ 60 := by
  unfold few at h
  rw [Bool.and_eq_true, List.all_eq_true] at h
  exact fun k hk => of_decide_eq_true (h.2 k hk)
end Sq
theorem sents_of_arg {w : World} {B : Nat} {v : Value} (h : Arg w B (.slice 56 Sq.ty) v) : ∃ l : List Sq, RowsOf (· < B) Sq.enc 5 w v l ∧ l.length * 56 ≤ 140737488351232 ∧ (∀ x ∈ l, x.Wf w B) := by
  obtain ⟨l, h1, h2, h3⟩ := rows_of_arg (enc := Sq.enc) (wf := Sq.Wf w B) (e := Sq.ty) (fun _ => rfl) (fun cs hc => Sq.of_rd hc) h
  exact ⟨l, h1, h2, h3⟩
end Go.Peri
