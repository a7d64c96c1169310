/- Plain law of layer 28 (net). No program in sight. -/
import Derived.Test.YthmopkaecbebpaaOw
namespace Go.Peri
open Go.RowKit
/-- A letter. -/
structure Lt where
  no : Int
  from_ : Int
  to : Int
  bytes : ByteArray
namespace Lt
def enc (x : Lt) : List Value := [.int .i64 x.no, .int .i64 x.from_, .int .i64 x.to, .string x.bytes]
theorem enc_length (x : Lt) : x.enc.length = 4 := rfl
instance : DecidableEq Lt := fun a b =>
  if h : a.no = b.no ∧ a.from_ = b.from_ ∧ a.to = b.to ∧ a.bytes = b.bytes then .isTrue (by obtain ⟨⟩ := a; obtain ⟨⟩ := b; simp_all) else .isFalse (by rintro rfl; simp at h)
theorem one (l : List Lt) : ∀ u ∈ l.flatMap Lt.enc, u.oneCell' = true := by
  intro u hu
  obtain ⟨o, _, ho⟩ := List.mem_flatMap.1 hu
  simp only [Lt.enc, List.mem_cons, List.not_mem_nil, or_false] at ho
  rcases ho with rfl | rfl | rfl | rfl <;> rfl
theorem cells {y : Lt} {w : World} {b o : Nat} (h : ∀ j u, y.enc[j]? = some u → w.cell? ⟨b, o + j, none⟩ = some u) :
    w.cell? ⟨b, o, none⟩ = some (.int .i64 y.no) ∧ w.cell? ⟨b, o + 1, none⟩ = some (.int .i64 y.from_) ∧ w.cell? ⟨b, o + 2, none⟩ = some (.int .i64 y.to) ∧ w.cell? ⟨b, o + 3, none⟩ = some (.string y.bytes) :=
  ⟨h 0 _ rfl, h 1 _ rfl, h 2 _ rfl, h 3 _ rfl⟩
def zero : Lt := ⟨0, 0, 0, ByteArray.empty⟩
end Lt
/-- A net: what is on its way, the next number, how many were lost. -/
structure Nt where
  all : List Lt
  next : Nat
  lost : Nat
namespace Nt
def lose1 (s : Nt) : Nt := { s with lost := min (s.lost + 1) 1099511627776 }
def send (s : Nt) (f t : Int) (b : ByteArray) : Nt := if 256 ≤ s.all.length then s.lose1 else ⟨s.all ++ [⟨s.next, f, t, b⟩], s.next + 1, s.lost⟩
def sendB (s : Nt) : Bool := decide (s.all.length < 256)
def has (s : Nt) (k : Int) : Bool := decide (0 ≤ k) && decide (k < s.all.length)
def off (s : Nt) (k : Int) : Nt := { s with all := s.all.eraseIdx k.toNat }
def take (s : Nt) (k : Int) : Nt := if s.has k = true then s.off k else s
def at_ (s : Nt) (k : Int) : Lt := s.all.getD k.toNat Lt.zero
def takeL (s : Nt) (k : Int) : Lt := if s.has k = true then s.at_ k else Lt.zero
def lose (s : Nt) (k : Int) : Nt := if s.has k = true then (s.off k).lose1 else s
def copy (s : Nt) (k : Int) : Nt := if s.has k = true then s.send (s.at_ k).from_ (s.at_ k).to (s.at_ k).bytes else s
def copyB (s : Nt) (k : Int) : Bool := s.has k && s.sendB
def new : Nt := ⟨[], 0, 0⟩
/-- Numbers rise; there is never too much; all is counted. -/
structure Inv (s : Nt) (m : Nat) : Prop where
  len : s.all.length ≤ 256
  next : s.next ≤ m
  lost : s.lost ≤ m
  below : ∀ x ∈ s.all, x.no < (s.next : Int)
  rise : s.all.Pairwise (fun x y => x.no < y.no)
theorem inv_new : Inv new 0 := ⟨by simp [new], by simp [new], by simp [new], by simp [new], by simp [new]⟩
theorem Inv.mono {s : Nt} {m m' : Nat} (h : Inv s m) (hm : m ≤ m') : Inv s m' := ⟨h.len, Nat.le_trans h.next hm, Nat.le_trans h.lost hm, h.below, h.rise⟩
theorem Inv.lose1 {s : Nt} {m : Nat} (h : Inv s m) : Inv s.lose1 (m + 1) := ⟨h.len, Nat.le_trans h.next (by omega), by have := h.lost; show min _ _ ≤ _; omega, h.below, h.rise⟩
theorem Inv.send {s : Nt} {m : Nat} (h : Inv s m) (f t : Int) (b : ByteArray) : Inv (s.send f t b) (m + 1) := by
  unfold Nt.send
  split
  · exact h.lose1
  · rename_i hl
    refine ⟨by simp; omega, by have := h.next; show _ + 1 ≤ _; omega, by have := h.lost; show s.lost ≤ _; omega, ?_, ?_⟩
    · intro x hx
      show x.no < ((s.next + 1 : Nat) : Int)
      rcases List.mem_append.1 hx with hx | hx
      · have := h.below x hx; push_cast; omega
      · rw [List.mem_singleton] at hx; subst hx; push_cast; show (s.next : Int) < _; omega
    · show List.Pairwise _ (s.all ++ _)
      rw [List.pairwise_append]
      refine ⟨h.rise, by simp, ?_⟩
      intro a ha b hb
      rw [List.mem_singleton] at hb; subst hb
      exact h.below a ha
theorem mem_erase {α : Type} {l : List α} {k : Nat} {x : α} (h : x ∈ l.eraseIdx k) : x ∈ l := List.mem_of_mem_eraseIdx h
theorem Inv.off {s : Nt} {m : Nat} (h : Inv s m) (k : Int) : Inv (s.off k) m := by
  refine ⟨Nat.le_trans (List.length_eraseIdx_le _ _) h.len, h.next, h.lost, fun x hx => h.below x (mem_erase hx), ?_⟩
  exact h.rise.sublist (List.eraseIdx_sublist _ _)
theorem Inv.take {s : Nt} {m : Nat} (h : Inv s m) (k : Int) : Inv (s.take k) (m + 1) := by
  unfold Nt.take
  split
  · exact (h.off k).mono (by omega)
  · exact h.mono (by omega)
theorem Inv.lose {s : Nt} {m : Nat} (h : Inv s m) (k : Int) : Inv (s.lose k) (m + 1) := by
  unfold Nt.lose
  split
  · exact (h.off k).lose1
  · exact h.mono (by omega)
theorem Inv.copy {s : Nt} {m : Nat} (h : Inv s m) (k : Int) : Inv (s.copy k) (m + 1) := by
  unfold Nt.copy
  split
  · exact h.send _ _ _
  · exact h.mono (by omega)
/-- How many there are, and were lost. -/
def sum (s : Nt) : Nat := s.all.length + s.lost
theorem sum_lose1 {s : Nt} {m : Nat} (h : Inv s m) (hm : m < 1000000) : s.lose1.sum = s.sum + 1 := by
  have := h.lost
  unfold sum
  show s.all.length + min _ _ = _
  omega
theorem sum_send {s : Nt} {m : Nat} (h : Inv s m) (hm : m < 1000000) (f t : Int) (b : ByteArray) : (s.send f t b).sum = s.sum + 1 := by
  unfold Nt.send
  split
  · exact sum_lose1 h hm
  · unfold sum; simp; omega
theorem has_iff (s : Nt) (k : Int) : s.has k = true ↔ 0 ≤ k ∧ k < s.all.length := by unfold has; simp
theorem off_len {s : Nt} {k : Int} (h : s.has k = true) : (s.off k).all.length + 1 = s.all.length := by
  obtain ⟨h1, h2⟩ := (has_iff s k).1 h
  show (s.all.eraseIdx _).length + 1 = _
  rw [List.length_eraseIdx_of_lt (by omega)]
  omega
theorem sum_take {s : Nt} {k : Int} (h : s.has k = true) : (s.take k).sum + 1 = s.sum := by
  unfold Nt.take
  rw [if_pos h]
  have := off_len h
  unfold sum
  show _ + s.lost + 1 = _
  omega
theorem sum_lose {s : Nt} {m : Nat} (h : Inv s m) (hm : m < 1000000) (k : Int) : (s.lose k).sum = s.sum := by
  unfold Nt.lose
  split
  · rename_i hk
    rw [sum_lose1 (h.off k) hm]
    have := off_len hk
    unfold sum
    show _ + s.lost + 1 = _
    omega
  · rfl
theorem erase_eq (l : List Lt) (k : Nat) : l.eraseIdx k = l.take k ++ l.drop (k + 1) := List.eraseIdx_eq_take_drop_succ _ _
end Nt
end Go.Peri
