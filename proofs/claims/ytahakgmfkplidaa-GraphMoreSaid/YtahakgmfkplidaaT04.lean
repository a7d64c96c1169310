/- Readings of slices, whatever is known of their blocks; lists of headers, of texts, alike; no condition. -/
import Derived.Test.YtahakgmfkplidaaI04
import Derived.Test.YtahakgmfkplidaaJ04
import Derived.Test.YtahakgmfkplidaaK04
import Derived.Test.YtahakgmfkplidaaS04
namespace Go.Peri
open Go.RowKit
theorem rows_of_blk {α : Type} {enc : α → List Value} {k : Nat} (hk : ∀ x, (enc x).length = k) {w : World} {g t n : Nat} {l : List α} (h : Blk w g (l.flatMap enc).toArray t) (hn : l.length = n) (hm : n ≤ maxLen) : RowsOf (· = g) enc k w (.slice (some ⟨g, 0, none⟩) n n) l := by
  subst hn
  refine ⟨_, _, rfl, Nat.le_refl _, hm, by simp, .inr ⟨g, 0, rfl, rfl, fun i hi j u hu => ?_⟩⟩
  have hj : j < k := by have := (List.getElem?_eq_some_iff.1 hu).1; rw [hk] at this; exact this
  rw [h.cell, Nat.zero_add, List.getElem?_toArray, flat_get hk l i hi j hj]
  exact hu
/-- A reading, whatever is known of its block. -/
def Reads {α : Type} (enc : α → List Value) (k : Nat) (w : World) (v : Value) (l : List α) : Prop := ∃ p : Nat → Prop, (∀ b, p b → b < w.heap.size) ∧ RowsOf p enc k w v l
theorem Reads.later {α : Type} {enc : α → List Value} {k : Nat} {w w' : World} {v : Value} {l : List α} (h : Reads enc k w v l) (hb : Below w.heap.size w w') : Reads enc k w' v l := by
  obtain ⟨p, h1, h2⟩ := h
  exact ⟨p, fun b hb' => Nat.lt_of_lt_of_le (h1 b hb') hb.size, h2.below hb h1⟩
theorem Reads.blk {α : Type} {enc : α → List Value} {k : Nat} (hk : ∀ x, (enc x).length = k) {w : World} {g t n : Nat} {l : List α} (h : Blk w g (l.flatMap enc).toArray t) (hn : l.length = n) (hm : n ≤ maxLen) : Reads enc k w (.slice (some ⟨g, 0, none⟩) n n) l :=
  ⟨(· = g), fun b hb => by rw [hb]; exact h.lt, rows_of_blk hk h hn hm⟩
theorem Reads.owns {α : Type} {enc : α → List Value} {k : Nat} (hk : ∀ x, (enc x).length = k) {w : World} {base : Nat} {e : TypeId} {v : Value} {l : List α} (h : w.ownsRow base e k v l.length (l.flatMap enc)) : Reads enc k w v l := ⟨_, fun _ hb => hb.2, RowsOf.of_owns hk h⟩
theorem Reads.form {α : Type} {enc : α → List Value} {k : Nat} {w : World} {v : Value} {l : List α} (h : Reads enc k w v l) : ∃ a cap, v = .slice a l.length cap := by
  obtain ⟨_, _, h⟩ := h
  exact h.form
/-- A new slice, as the laws want it. -/
def NewR {α : Type} (enc : α → List Value) (k n : Nat) (W : World) (l : List α) (e : Ending) (w' : World) : Prop :=
  ∃ a cap, e = .returned (.slice a n cap) ∧ Below W.heap.size W w' ∧ Hid (Reads enc k w' (.slice a n cap) l)
theorem NewRows.newR {α : Type} {enc : α → List Value} {k n : Nat} (hk : ∀ x, (enc x).length = k) {T : TypeId} {W : World} {l m : List α} {e : Ending} {w' : World} (h : NewRows enc k T W l e w') (hm : l = m) (hn : m.length = n) : NewR enc k n W m e w' := by
  subst hm hn
  obtain ⟨a, cap, h1, h2, h3⟩ := h
  exact ⟨a, cap, h1, h2, Reads.owns hk h3.out⟩
end Go.Peri
namespace Go.Proofs.Ytahakgmfkplidaa
open Go.RowKit Go.Peri
namespace C04
theorem texts_list (u v : Value) (l : List ByteArray) (W : World) (h : Reads sEnc 1 W u l) (h2 : Reads sEnc 1 W v l) (hl : l.length ≤ 1000000) :
    Calls Try.prog 10 #[u, v] W fun e w' => e = .returned (.bool true) ∧ Below W.heap.size W w' := by
  obtain ⟨p, hp, hr⟩ := h
  obtain ⟨q, hq, hr2⟩ := h2
  exact texts_any u v l l true W hr hp hr2 hq (by omega) (by omega) (decide_eq_true rfl)
end C04
end Go.Proofs.Ytahakgmfkplidaa
