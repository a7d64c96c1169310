/- Services, what they handle, operations as plain data, and what cells of them read as. No program in sight. -/
import Derived.Test.YtahakgmfkplidaaHd
import Derived.Test.YtahakgmfkplidaaSp
namespace Go.Peri
open Go.RowKit
/-- An operation. -/
structure Opr where
  kind : Int
  a : ByteArray
  b : ByteArray
  n : Int
namespace Opr
instance : Inhabited Opr := ⟨⟨0, ByteArray.empty, ByteArray.empty, 0⟩⟩
instance : DecidableEq Opr := fun x y =>
  if h : x.kind = y.kind ∧ x.a = y.a ∧ x.b = y.b ∧ x.n = y.n then .isTrue (by obtain ⟨⟩ := x; obtain ⟨⟩ := y; simp_all) else .isFalse (by rintro rfl; simp at h)
def enc (k : Opr) : List Value := [.int .i64 k.kind, .string k.a, .string k.b, .int .i64 k.n]
theorem enc_length (k : Opr) : k.enc.length = 4 := rfl
def ty : Ty := .cons (.int .i64) (.cons .str (.cons .str (.cons (.int .i64) .nil)))
structure Wf (x : Opr) : Prop where
  a : x.a.size ≤ 140737488351232
  b : x.b.size ≤ 140737488351232
  n : Sp.I64 x.n
theorem of_rd {w : World} {B : Nat} {cs : List Value} (h : Rd w B ty cs) : ∃ x : Opr, cs = x.enc ∧ Wf x := by
  obtain ⟨_, _, rfl, _, a1, h⟩ := h
  obtain ⟨_, _, rfl, _, a2, h⟩ := h
  obtain ⟨_, _, rfl, _, a3, h⟩ := h
  obtain ⟨_, _, rfl, _, a4, h⟩ := h
  obtain ⟨kind, rfl, _⟩ := Sp.rd_i64 a1
  obtain ⟨a, rfl, g2⟩ := Hd.rd_str a2
  obtain ⟨b, rfl, g3⟩ := Hd.rd_str a3
  obtain ⟨n, rfl, g4⟩ := Sp.rd_i64 a4
  have e1 : (_ : List Value) = [] := h
  subst e1
  exact ⟨⟨kind, a, b, n⟩, rfl, ⟨g2, g3, g4⟩⟩
theorem cells {y : Opr} {w : World} {b o : Nat} (h : ∀ j u, y.enc[j]? = some u → w.cell? ⟨b, o + j, none⟩ = some u) :
    w.cell? ⟨b, o, none⟩ = some (.int .i64 y.kind) ∧ w.cell? ⟨b, o + 1, none⟩ = some (.string y.a) ∧ w.cell? ⟨b, o + 2, none⟩ = some (.string y.b) ∧ w.cell? ⟨b, o + 3, none⟩ = some (.int .i64 y.n) :=
  ⟨h 0 _ rfl, h 1 _ rfl, h 2 _ rfl, h 3 _ rfl⟩
theorem one (l : List Opr) : ∀ u ∈ l.flatMap Opr.enc, u.oneCell' = true := by
  intro u hu
  obtain ⟨o, _, ho⟩ := List.mem_flatMap.1 hu
  simp only [Opr.enc, List.mem_cons, List.not_mem_nil, or_false] at ho
  rcases ho with rfl | rfl | rfl | rfl <;> rfl
end Opr
/-- What is done with a path: the operations lie where pa says. -/
structure Hn where
  path : ByteArray
  pa : Option Addr
  pcap : Nat
  ops : List Opr
namespace Hn
instance : Inhabited Hn := ⟨⟨ByteArray.empty, none, 0, []⟩⟩
def enc (k : Hn) : List Value := [.string k.path, .slice k.pa k.ops.length k.pcap]
theorem enc_length (k : Hn) : k.enc.length = 2 := rfl
def At (p : Nat → Prop) (w : World) (k : Hn) : Prop := RowsOf p Opr.enc 4 w (.slice k.pa k.ops.length k.pcap) k.ops
theorem At.imp {p q : Nat → Prop} {w : World} {k : Hn} (h : At p w k) (hpq : ∀ b, p b → q b) : At q w k := RowsOf.imp h hpq
theorem At.below {p : Nat → Prop} {B : Nat} {w w' : World} {k : Hn} (h : At p w k) (ho : Below B w w') (hp : ∀ b, p b → b < B) : At p w' k := RowsOf.below h ho hp
def ty : Ty := .cons .str (.cons (.slice 48 Opr.ty) .nil)
structure Wf (w : World) (B : Nat) (k : Hn) : Prop where
  path : k.path.size ≤ 140737488351232
  rows : k.At (· < B) w
  len : k.ops.length * 48 ≤ 140737488351232
  ops : ∀ o ∈ k.ops, o.Wf
theorem of_rd {w : World} {B : Nat} {cs : List Value} (h : Rd w B ty cs) : ∃ k : Hn, cs = k.enc ∧ Wf w B k := by
  obtain ⟨_, _, rfl, _, a1, h⟩ := h
  obtain ⟨c1, _, rfl, hl1, a2, h⟩ := h
  obtain ⟨path, rfl, g1⟩ := Hd.rd_str a1
  have e2 : (_ : List Value) = [] := h
  subst e2
  obtain ⟨v1, rfl⟩ : ∃ v, c1 = [v] := by
    match c1, hl1 with
    | [v], _ => exact ⟨v, rfl⟩
  obtain ⟨l, k1, k2, k3⟩ := rows_of_arg (enc := Opr.enc) (wf := Opr.Wf) (e := Opr.ty) (fun _ => rfl) (fun cs hc => Opr.of_rd hc) (v := v1) a2
  obtain ⟨a, cap, rfl⟩ : ∃ a cap, v1 = .slice a l.length cap := by
    obtain ⟨a, cap, e, _⟩ := k1
    exact ⟨a, cap, e⟩
  exact ⟨⟨path, a, cap, l⟩, rfl, ⟨g1, k1, k2, k3⟩⟩
theorem cells {y : Hn} {w : World} {b o : Nat} (h : ∀ j u, y.enc[j]? = some u → w.cell? ⟨b, o + j, none⟩ = some u) :
    w.cell? ⟨b, o, none⟩ = some (.string y.path) ∧ w.cell? ⟨b, o + 1, none⟩ = some (.slice y.pa y.ops.length y.pcap) := ⟨h 0 _ rfl, h 1 _ rfl⟩
end Hn
/-- A service: what it handles lies where pa says. -/
structure Sv where
  name : ByteArray
  pa : Option Addr
  pcap : Nat
  hs : List Hn
namespace Sv
instance : Inhabited Sv := ⟨⟨ByteArray.empty, none, 0, []⟩⟩
def enc (k : Sv) : List Value := [.string k.name, .slice k.pa k.hs.length k.pcap]
theorem enc_length (k : Sv) : k.enc.length = 2 := rfl
structure At (p : Nat → Prop) (w : World) (k : Sv) : Prop where
  rows : RowsOf p Hn.enc 2 w (.slice k.pa k.hs.length k.pcap) k.hs
  hs : ∀ h ∈ k.hs, h.At p w
theorem At.imp {p q : Nat → Prop} {w : World} {k : Sv} (h : At p w k) (hpq : ∀ b, p b → q b) : At q w k := ⟨h.rows.imp hpq, fun x hx => (h.hs x hx).imp hpq⟩
theorem At.below {p : Nat → Prop} {B : Nat} {w w' : World} {k : Sv} (h : At p w k) (ho : Below B w w') (hp : ∀ b, p b → b < B) : At p w' k := ⟨h.rows.below ho hp, fun x hx => (h.hs x hx).below ho hp⟩
def ty : Ty := .cons .str (.cons (.slice 40 Hn.ty) .nil)
structure Wf (w : World) (B : Nat) (k : Sv) : Prop where
  name : k.name.size ≤ 140737488351232
  rows : RowsOf (· < B) Hn.enc 2 w (.slice k.pa k.hs.length k.pcap) k.hs
  len : k.hs.length * 40 ≤ 140737488351232
  hs : ∀ h ∈ k.hs, h.Wf w B
theorem Wf.at {w : World} {B : Nat} {k : Sv} (h : Wf w B k) : k.At (· < B) w := ⟨h.rows, fun x hx => (h.hs x hx).rows⟩
theorem of_rd {w : World} {B : Nat} {cs : List Value} (h : Rd w B ty cs) : ∃ k : Sv, cs = k.enc ∧ Wf w B k := by
  obtain ⟨_, _, rfl, _, a1, h⟩ := h
  obtain ⟨c1, _, rfl, hl1, a2, h⟩ := h
  obtain ⟨name, rfl, g1⟩ := Hd.rd_str a1
  have e2 : (_ : List Value) = [] := h
  subst e2
  obtain ⟨v1, rfl⟩ : ∃ v, c1 = [v] := by
    match c1, hl1 with
    | [v], _ => exact ⟨v, rfl⟩
  obtain ⟨l, k1, k2, k3⟩ := rows_of_arg (enc := Hn.enc) (wf := Hn.Wf w B) (e := Hn.ty) (fun _ => rfl) (fun cs hc => Hn.of_rd hc) (v := v1) a2
  obtain ⟨a, cap, rfl⟩ : ∃ a cap, v1 = .slice a l.length cap := by
    obtain ⟨a, cap, e, _⟩ := k1
    exact ⟨a, cap, e⟩
  exact ⟨⟨name, a, cap, l⟩, rfl, ⟨g1, k1, k2, k3⟩⟩
theorem cells {y : Sv} {w : World} {b o : Nat} (h : ∀ j u, y.enc[j]? = some u → w.cell? ⟨b, o + j, none⟩ = some u) :
    w.cell? ⟨b, o, none⟩ = some (.string y.name) ∧ w.cell? ⟨b, o + 1, none⟩ = some (.slice y.pa y.hs.length y.pcap) := ⟨h 0 _ rfl, h 1 _ rfl⟩
end Sv
theorem services_of_arg {w : World} {B : Nat} {v : Value} (h : Arg w B (.slice 40 Sv.ty) v) : ∃ l : List Sv, RowsOf (· < B) Sv.enc 2 w v l ∧ l.length * 40 ≤ 140737488351232 ∧ (∀ x ∈ l, x.Wf w B) := by
  obtain ⟨l, h1, h2, h3⟩ := rows_of_arg (enc := Sv.enc) (wf := Sv.Wf w B) (e := Sv.ty) (fun _ => rfl) (fun cs hc => Sv.of_rd hc) h
  exact ⟨l, h1, h2, h3⟩
end Go.Peri
