/- Headers as plain data, and what cells of them read as. No program in sight. -/
import Derived.Test.YtahakgmfkplidaaRw
namespace Go.Peri
open Go.RowKit
/-- A header. -/
structure Hd where
  name : ByteArray
  value : ByteArray
namespace Hd
def enc (h : Hd) : List Value := [.string h.name, .string h.value]
theorem enc_length (h : Hd) : h.enc.length = 2 := rfl
instance : DecidableEq Hd := fun a b =>
  if h : a.name = b.name ∧ a.value = b.value then .isTrue (by obtain ⟨⟩ := a; obtain ⟨⟩ := b; simp_all) else .isFalse (by rintro rfl; simp at h)
def ty : Ty := .cons .str (.cons .str .nil)
structure Wf (h : Hd) : Prop where
  name : h.name.size ≤ 140737488351232
  value : h.value.size ≤ 140737488351232
theorem rd_str {w : World} {B : Nat} {cs : List Value} (h : Rd w B .str cs) : ∃ s : ByteArray, cs = [.string s] ∧ s.size ≤ 140737488351232 := by
  obtain ⟨s, rfl, _, h2⟩ := h
  exact ⟨s, rfl, h2⟩
theorem of_rd {w : World} {B : Nat} {cs : List Value} (h : Rd w B ty cs) : ∃ x : Hd, cs = x.enc ∧ Wf x := by
  obtain ⟨_, _, rfl, _, a1, h⟩ := h
  obtain ⟨_, _, rfl, _, a2, h⟩ := h
  obtain ⟨n, rfl, g1⟩ := rd_str a1
  obtain ⟨v, rfl, g2⟩ := rd_str a2
  have e1 : (_ : List Value) = [] := h
  subst e1
  exact ⟨⟨n, v⟩, rfl, ⟨g1, g2⟩⟩
theorem cells {y : Hd} {w : World} {b o : Nat} (h : ∀ j u, y.enc[j]? = some u → w.cell? ⟨b, o + j, none⟩ = some u) :
    w.cell? ⟨b, o, none⟩ = some (.string y.name) ∧ w.cell? ⟨b, o + 1, none⟩ = some (.string y.value) := ⟨h 0 _ rfl, h 1 _ rfl⟩
theorem one (l : List Hd) : ∀ u ∈ l.flatMap Hd.enc, u.oneCell' = true := by
  intro u hu
  obtain ⟨o, _, ho⟩ := List.mem_flatMap.1 hu
  simp only [Hd.enc, List.mem_cons, List.not_mem_nil, or_false] at ho
  rcases ho with rfl | rfl <;> rfl

/-- What may be. -/
def nameB (b : UInt8) : Bool := b == 45 || (48 ≤ b && b ≤ 57) || (97 ≤ b && b ≤ 122)
def valueB (b : UInt8) : Bool := 32 ≤ b && b ≤ 126
def nameOk (s : ByteArray) : Bool := decide (1 ≤ s.size) && decide (s.size ≤ 32) && s.data.toList.all nameB
def valueOk (s : ByteArray) : Bool := decide (s.size ≤ 64) && s.data.toList.all valueB && (decide (s.size = 0) || (s.data.toList.head? != some 32 && s.data.toList.getLast? != some 32))
/-- The first one that may not be. -/
def checkL : List Hd → Int
  | [] => 0
  | h :: l => if nameOk h.name = false then 7 else if valueOk h.value = false then 15 else checkL l
def checkR (l : List Hd) : Int := if 16 < l.length then 8 else checkL l
/-- The place of the first one of a name. -/
def ix (l : List Hd) (n : ByteArray) : Nat := l.findIdx (fun h => decide (h.name = n))
def allR (l : List Hd) (n : ByteArray) : List ByteArray := (l.filter (fun h => decide (h.name = n))).map Hd.value
def getR (l : List Hd) (n : ByteArray) : ByteArray × Bool := match allR l n with | [] => (ByteArray.empty, false) | v :: _ => (v, true)
def setR (l : List Hd) (n v : ByteArray) : List Hd :=
  if ix l n < l.length then l.take (ix l n) ++ ⟨n, v⟩ :: (l.drop (ix l n)).filter (fun h => !decide (h.name = n)) else l ++ [⟨n, v⟩]
def outR (l : List Hd) (ns : List ByteArray) : List Hd := l.filter (fun h => !ns.any (fun x => decide (x = h.name)))
end Hd
theorem heads_of_arg {w : World} {B : Nat} {v : Value} (h : Arg w B (.slice 32 Hd.ty) v) : ∃ l : List Hd, RowsOf (· < B) Hd.enc 2 w v l ∧ l.length * 32 ≤ 140737488351232 ∧ (∀ x ∈ l, x.Wf) := by
  obtain ⟨l, h1, h2, h3⟩ := rows_of_arg (enc := Hd.enc) (wf := Hd.Wf) (e := Hd.ty) (fun _ => rfl) (fun cs hc => Hd.of_rd hc) h
  exact ⟨l, h1, h2, h3⟩
theorem str_of_arg {w : World} {B : Nat} {v : Value} (h : Arg w B .str v) : ∃ s : ByteArray, v = .string s ∧ s.size ≤ 140737488351232 := by
  obtain ⟨s, e, _, h2⟩ := h
  cases e
  exact ⟨s, rfl, h2⟩
end Go.Peri
