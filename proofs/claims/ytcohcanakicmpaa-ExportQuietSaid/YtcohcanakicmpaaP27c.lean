/- Plain laws of layer 27 (export): an exporter whose batches are acknowledged at once falls quiet. No program in sight. -/
import Derived.Test.YtcohcanakicmpaaMg11
namespace Go.Proofs.Ytcohcanakicmpaa
open Go.RowKit Go.Peri
open Sq (rest ixQ atQ total bk benc)
open C26 (clk dueI restS againS givenS fate)
open C25 (roomR putR takeN)
open C10 (Okb bW)
open C09 (chS)
namespace C27
theorem restX_nil {c : Lim} {x : Xs} (h : x.way = []) (now : Int) : restX c x now = x := by
  unfold restX
  rw [h]
  obtain ⟨⟩ := x
  simp only [] at h
  subst h
  rfl
theorem step_no {c : Lim} {x : Xs} (h : x.way = []) {now : Int} (hr : readyB c x now = false) : stepX 0 c x now = (x, []) := by
  unfold stepX
  rw [restX_nil h, hr, h]
  rfl
theorem step_yes {c : Lim} {x : Xs} (h : x.way = []) {now : Int} (hr : readyB c x now = true) : stepX 0 c x now = (freshX 0 c x now, [(0, (x.next : Int), takenX c x)]) := by
  unfold stepX
  rw [restX_nil h, hr, h]
  rfl
/-- Behind a tick that sent, and the acknowledgement of what it sent. -/
def quietX (c : Lim) (x : Xs) (now : Int) : Xs := ackX (freshX 0 c x now) x.next
theorem fresh_way {c : Lim} {x : Xs} (h : x.way = []) (now : Int) : (freshX 0 c x now).way = [oneX 0 c x now] := by
  show x.way ++ [oneX 0 c x now] = _
  rw [h]; rfl
theorem quiet_ack {c : Lim} {x : Xs} (h : x.way = []) (now : Int) : ackN (freshX 0 c x now) x.next = (takenX c x).length ∧ (quietX c x now).way = [] ∧ (quietX c x now).wait = x.wait.drop (takeN c.batch x.wait) ∧ (quietX c x now).last = now ∧ (quietX c x now).acked = x.acked + (takenX c x).length := by
  have e1 : rest (freshX 0 c x now).way x.next = [] := by
    rw [fresh_way h]
    unfold rest
    rw [List.filter_cons_of_neg (by simp [oneX])]
    rfl
  have e2 : ackN (freshX 0 c x now) x.next = (takenX c x).length := by
    unfold ackN
    rw [e1, fresh_way h]
    simp [total, oneX]
  refine ⟨e2, e1, rfl, rfl, ?_⟩
  show x.acked + ackN (freshX 0 c x now) x.next = _
  rw [e2]
/-- What holds between two ticks. -/
structure QI (c : Lim) (x : Xs) (i : Nat) (put got : List Sp) : Prop where
  inv : ∃ b s, Inv c x i b s
  way : x.way = []
  cat : got ++ x.wait = put
  acked : x.acked = got.length
theorem qi_no {c : Lim} {x : Xs} {i : Nat} {put got : List Sp} (h : QI c x i put got) {now : Int} (hn : 0 ≤ now ∧ now ≤ 1099511627776) (hr : readyB c x now = false) : QI c x (i + 2) put got := by
  obtain ⟨⟨b, s, hi⟩, h2, h3, h4⟩ := h
  have h5 := inv_tick hi now hn
  rw [step_no h2 hr] at h5
  exact ⟨⟨b, _, h5.ok, h5.wait, h5.room, h5.way, h5.asc, h5.few, h5.sum, by have := h5.bi; omega, h5.lost, by have h6 : x.next ≤ i + 1 := h5.next; omega, h5.sent, h5.last⟩, h2, h3, h4⟩
theorem taken_drop (c : Lim) (x : Xs) : takenX c x ++ x.wait.drop (takeN c.batch x.wait) = x.wait := List.take_append_drop _ _
theorem qi_yes {c : Lim} {x : Xs} {i : Nat} {put got : List Sp} (h : QI c x i put got) {now : Int} (hn : 0 ≤ now ∧ now ≤ 1099511627776) (hr : readyB c x now = true) : QI c (quietX c x now) (i + 2) put (got ++ takenX c x) := by
  obtain ⟨⟨b, s, hi⟩, h2, h3, h4⟩ := h
  have h5 := inv_tick hi now hn
  rw [step_yes h2 hr] at h5
  obtain ⟨e1, e2, e3, e4, e5⟩ := quiet_ack h2 (c := c) now
  refine ⟨⟨b, _, inv_ack h5 x.next⟩, e2, ?_, ?_⟩
  · rw [e3, List.append_assoc, taken_drop]; exact h3
  · rw [e5, h4, List.length_append]
/-- How far it has come behind t ticks. -/
def Prog (c : Lim) (x : Xs) (frm : Int) (t n0 : Nat) : Prop :=
  x.wait = [] ∨ ∃ s : Nat, s ≤ t ∧ x.wait.length + s ≤ n0 ∧ 1 ≤ x.wait.length ∧ (x.last = frm + s ∨ (s = 0 ∧ x.last = 0)) ∧ (s = t ∨ (x.wait.length : Int) < c.batch) ∧ ((t : Int) < s + c.every ∨ s = t)
theorem ready_eq {c : Lim} {x : Xs} {now : Int} (ok : c.Ok) (h : x.way = []) (h1 : 1 ≤ x.wait.length) : readyB c x now = true ↔ (c.batch ≤ (x.wait.length : Int) ∨ c.every ≤ now - x.last) := by
  have hf := ok.flight
  unfold readyB
  rw [h]
  simp only [Bool.and_eq_true, Bool.or_eq_true, decide_eq_true_eq, List.length_nil]
  constructor
  · exact fun h => h.2.2
  · exact fun h => ⟨by omega, by omega, h⟩
theorem prog_no {c : Lim} {x : Xs} {frm : Int} {t n0 : Nat} (ok : c.Ok) (hf : 0 ≤ frm) (h : x.way = []) (hp : Prog c x frm t n0) (hr : readyB c x (frm + (t + 1 : Nat)) = false) : Prog c x frm (t + 1) n0 := by
  rcases hp with hp | ⟨s, a1, a2, a3, a4, a5, a6⟩
  · exact .inl hp
  · have h1 : ¬ (c.batch ≤ (x.wait.length : Int) ∨ c.every ≤ frm + (t + 1 : Nat) - x.last) := by
      rw [← ready_eq ok h a3, hr]; simp
    rw [not_or] at h1
    refine .inr ⟨s, by omega, a2, a3, a4, .inr (by omega), .inl ?_⟩
    have h2 := h1.2
    rcases a4 with e | ⟨e1, e2⟩
    · rw [e] at h2; omega
    · rw [e2] at h2; omega
theorem prog_yes {c : Lim} {x : Xs} {frm : Int} {t n0 : Nat} (ok : c.Ok) (h : x.way = []) (hp : Prog c x frm t n0) (hr : readyB c x (frm + (t + 1 : Nat)) = true) : Prog c (quietX c x (frm + (t + 1 : Nat))) frm (t + 1) n0 := by
  obtain ⟨e1, e2, e3, e4, e5⟩ := quiet_ack h (c := c) (frm + (t + 1 : Nat))
  have hb := ok.batch
  unfold Prog
  rw [e3, e4]
  rcases hp with hp | ⟨s, a1, a2, a3, a4, a5, a6⟩
  · rw [hp]; exact .inl (by simp)
  · obtain ⟨t1, t2, t3⟩ := taken_is (x := x) ok (by omega)
    by_cases he : (x.wait.drop (takeN c.batch x.wait)).length = 0
    · exact .inl (List.length_eq_zero_iff.1 he)
    · have ht : (takenX c x).length = takeN c.batch x.wait := by
        unfold takenX
        rw [List.length_take]
        have e : takeN c.batch x.wait = (max 0 (min c.batch (x.wait.length : Int))).toNat := rfl
        omega
      have hge : c.batch < (x.wait.length : Int) := by
        have e : takeN c.batch x.wait = (max 0 (min c.batch (x.wait.length : Int))).toNat := rfl
        omega
      have hst : s = t := by omega
      exact .inr ⟨t + 1, Nat.le_refl _, by omega, by omega, .inl rfl, .inl rfl, .inr rfl⟩
theorem prog_end {c : Lim} {x : Xs} {frm : Int} {t n0 : Nat} (h0 : (n0 : Int) ≤ c.buf) (ht : c.buf + c.every + 1 ≤ (t : Int)) (ok : c.Ok) (hp : Prog c x frm t n0) : x.wait = [] := by
  have hb := ok.every
  rcases hp with hp | ⟨s, a1, a2, a3, a4, a5, a6⟩
  · exact hp
  · exfalso
    rcases a6 with a6 | a6 <;> omega
theorem prog_start (c : Lim) (x : Xs) (frm : Int) (hl : x.last = 0) : Prog c x frm 0 x.wait.length := by
  by_cases h : x.wait.length = 0
  · exact .inl (List.length_eq_zero_iff.1 h)
  · exact .inr ⟨0, Nat.le_refl _, by omega, by omega, .inr ⟨rfl, hl⟩, .inl rfl, .inr rfl⟩
end C27
end Go.Proofs.Ytcohcanakicmpaa
