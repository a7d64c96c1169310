/- Plain facts of layer 4 (head), continued. No program in sight. -/
import Derived.Test.YtahakgmfkplidaaP04
import Derived.Test.YtahakgmfkplidaaOw
namespace Go.Peri
open Go.RowKit
def strs (ls : List ByteArray) : List Value := ls.map Value.string
theorem strs_one (ls : List ByteArray) : ∀ u ∈ strs ls, u.oneCell' = true := by
  intro u hu
  obtain ⟨s, _, rfl⟩ := List.mem_map.1 hu
  rfl
theorem bytes_ne {x y : ByteArray} (h : x ≠ y) : (x.toList == y.toList) = false := by
  refine beq_eq_false_iff_ne.2 fun e => h ?_
  rw [ByteArray.toList_eq, ByteArray.toList_eq] at e
  exact ByteArray.ext (Array.toList_inj.1 e)
theorem bytes_beq (x y : ByteArray) : (x.toList == y.toList) = decide (x = y) := by
  by_cases h : x = y
  · subst h; simp
  · rw [bytes_ne h, decide_eq_false h]
theorem bytes_bne (x y : ByteArray) : (x.toList != y.toList) = !decide (x = y) := by rw [bne, bytes_beq]
/-- A string is equal to another one, or not: as the walk asks it. -/
structure StrEq (x y : ByteArray) (b : Bool) : Prop where
  eq : (x.toList == y.toList) = b
  ne : (x.toList != y.toList) = !b
theorem strEq (x y : ByteArray) : StrEq x y (decide (x = y)) := ⟨bytes_beq x y, bytes_bne x y⟩
theorem strEq_of {x y : ByteArray} {b : Bool} (h : decide (x = y) = b) : StrEq x y b := h ▸ strEq x y
theorem below_drew {B : Nat} {a w : World} (h : Below B a.drew w) : Below B a w := ⟨h.os, h.tape, h.output, h.size, h.block⟩
/-- A new row of elements. -/
def NewRows {α : Type} (enc : α → List Value) (k : Nat) (T : TypeId) (W : World) (l : List α) (e : Ending) (w' : World) : Prop :=
  ∃ a cap, e = .returned (.slice a l.length cap) ∧ Below W.heap.size W w' ∧ Hid (w'.ownsRow W.heap.size T k (.slice a l.length cap) l.length (l.flatMap enc))
/-- .. known as a reading only. -/
def NewRead {α : Type} (enc : α → List Value) (k : Nat) (W : World) (l : List α) (e : Ending) (w' : World) : Prop :=
  ∃ a cap, e = .returned (.slice a l.length cap) ∧ Below W.heap.size W w' ∧ Hid (RowsOf (fun b => W.heap.size ≤ b ∧ b < w'.heap.size) enc k w' (.slice a l.length cap) l)
theorem NewRows.read {α : Type} {enc : α → List Value} {k : Nat} (hk : ∀ x, (enc x).length = k) {T : TypeId} {W : World} {l : List α} {e : Ending} {w' : World} (h : NewRows enc k T W l e w') : NewRead enc k W l e w' := by
  obtain ⟨a, cap, h1, h2, h3⟩ := h
  exact ⟨a, cap, h1, h2, RowsOf.of_owns hk h3.out⟩
def sEnc (s : ByteArray) : List Value := [.string s]
theorem sEnc_length (s : ByteArray) : (sEnc s).length = 1 := rfl
theorem sEnc_flat (l : List ByteArray) : l.flatMap sEnc = strs l := by
  induction l with
  | nil => rfl
  | cons x l ih => rw [List.flatMap_cons, ih]; rfl
theorem sEnc_one (l : List ByteArray) : ∀ u ∈ l.flatMap sEnc, u.oneCell' = true := by rw [sEnc_flat]; exact strs_one l
theorem rows_of_vals {p : Nat → Prop} {w : World} {v : Value} {l : List ByteArray} (h : Vals p w v (l.map Value.string)) : RowsOf p sEnc 1 w v l := by
  have := h.cellz
  rw [List.length_map] at this
  refine Cellz.rows sEnc_length ?_
  rw [sEnc_flat]
  exact this
/-- 'out = append(out, x)', the new block's number in the walk's spelling. -/
theorem wpList_pushH {P : Program} {t e : TypeId} {size bytes : Nat} (E : Elem P t e size bytes) {ops : Array Oper} {rest : List Oper} {o : Oper} {a : Act} {Q : Exit → Act → World → Prop} {w w0 : World} (hgd : o.guard = none) (s x : Operand)
    (ho : o.op = .call { callee := .builtin .append, args := #[s, x], argTypes := #[t, t] }) (base : Nat) (v : Value) (n : Nat) (xs news : List Value) (hs : a.eval s = v) (hown : w0.ownsRow base e size v n xs) {T : TypeId}
    (hw : w = w0.alloc (.cells news.toArray T)) (H : Nat) (hH : w0.heap.size = H) (hx : a.eval x = .slice (some ⟨H, 0, none⟩) 1 1) (hl : news.length = size) (h1 : ∀ u ∈ news, u.oneCell' = true)
    (h63 : n + 1 ≤ maxLen) (hbytes : (n + 1) * bytes ≤ 140737488355328) (hbase : base ≤ H)
    (h : ∀ v' w', w'.ownsRow base e size v' (n + 1) (xs ++ news) → Below base w0 w' → wpList P ops Q rest (a.put o.dst v') w') : wpList P ops Q (o :: rest) a w := by
  subst hH
  exact wpList_push E hgd s x ho base v n xs news hs hown hw hx hl h1 h63 hbytes hbase h
/-- A slice value as it is. -/
theorem RowsOf.form {α : Type} {p : Nat → Prop} {enc : α → List Value} {k : Nat} {w : World} {v : Value} {l : List α} (h : RowsOf p enc k w v l) : ∃ a cap, v = .slice a l.length cap := by
  obtain ⟨a, cap, e, _⟩ := h
  exact ⟨a, cap, e⟩
theorem owns_form {w : World} {base : Nat} {e : TypeId} {size : Nat} {v : Value} {n : Nat} {xs : List Value} (h : w.ownsRow base e size v n xs) : ∃ a cap, v = .slice a n cap := by
  rcases h.2 with ⟨h5, h0⟩ | ⟨gg, cap, cur, rfl, _⟩
  · rw [h5, h0]; exact ⟨none, 0, rfl⟩
  · exact ⟨_, cap, rfl⟩
namespace Hd
theorem allR_snoc (p : List Hd) (h : Hd) (n : ByteArray) : allR (p ++ [h]) n = if h.name = n then allR p n ++ [h.value] else allR p n := by
  unfold allR
  rw [List.filter_append]
  by_cases e : h.name = n <;> simp [e]
theorem allR_len (l : List Hd) (n : ByteArray) : (allR l n).length ≤ l.length := by
  unfold allR
  rw [List.length_map]
  exact List.length_filter_le _ _
theorem outR_snoc (p : List Hd) (h : Hd) (ns : List ByteArray) : outR (p ++ [h]) ns = if ns.any (fun x => decide (x = h.name)) then outR p ns else outR p ns ++ [h] := by
  unfold outR
  rw [List.filter_append]
  by_cases e : ns.any (fun x => decide (x = h.name)) = true <;> simp [e]
theorem outR_len (l : List Hd) (ns : List ByteArray) : (outR l ns).length ≤ l.length := List.length_filter_le _ _
theorem allR_ix (l : List Hd) (n : ByteArray) : (ix l n < l.length → ∃ t, allR l n = (l.getD (ix l n) ⟨.empty, .empty⟩).value :: t) ∧ (¬ ix l n < l.length → allR l n = []) := by
  induction l with
  | nil => exact ⟨fun h => by simp at h, fun _ => rfl⟩
  | cons h t ih =>
    by_cases e : h.name = n
    · have : ix (h :: t) n = 0 := by unfold ix; simp [List.findIdx_cons, e]
      rw [this]
      exact ⟨fun _ => ⟨allR t n, by simp [allR, e]⟩, fun h2 => absurd (by simp) h2⟩
    · have e1 : ix (h :: t) n = ix t n + 1 := by unfold ix; simp [List.findIdx_cons, e]
      have e2 : allR (h :: t) n = allR t n := by simp [allR, e]
      rw [e1, e2]
      refine ⟨fun h2 => ?_, fun h2 => ih.2 (by simpa using h2)⟩
      obtain ⟨q, hq⟩ := ih.1 (by simpa using h2)
      exact ⟨q, by rw [hq]; simp [List.getD]⟩
theorem getR_in (l : List Hd) (n : ByteArray) (h : ix l n < l.length) : getR l n = (l[ix l n].value, true) := by
  obtain ⟨t, ht⟩ := (allR_ix l n).1 h
  unfold getR
  rw [ht]
  simp [List.getD, h]
theorem getR_out (l : List Hd) (n : ByteArray) (h : ¬ ix l n < l.length) : getR l n = (ByteArray.empty, false) := by
  unfold getR
  rw [(allR_ix l n).2 h]
theorem ix_hit {l : List Hd} {n : ByteArray} {k : Nat} (hk : k < l.length) (h1 : l[k].name = n) (h2 : ∀ j (_ : j < k) (hj : j < l.length), l[j].name ≠ n) : ix l n = k := by
  unfold ix
  rw [List.findIdx_eq hk]
  exact ⟨by simpa using h1, fun j hj => by simpa using h2 j hj (by omega)⟩
theorem ix_none {l : List Hd} {n : ByteArray} (h2 : ∀ j (_ : j < l.length) (hj : j < l.length), l[j].name ≠ n) : ¬ ix l n < l.length := by
  intro h
  exact h2 _ h h (at_ix l n h)
/-- What where gives. -/
def atR (l : List Hd) (n : ByteArray) : Int := if ix l n < l.length then ix l n else -1
theorem atR_in {l : List Hd} {n : ByteArray} (h : ix l n < l.length) : atR l n = ix l n := if_pos h
theorem atR_out {l : List Hd} {n : ByteArray} (h : ¬ ix l n < l.length) : atR l n = -1 := if_neg h
end Hd
end Go.Peri
