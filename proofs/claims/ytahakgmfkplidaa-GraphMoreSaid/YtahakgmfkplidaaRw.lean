/- General lemmas on slices of structs: a slice that reads as a list of elements of k cells each. No program in sight. -/
import Derived.Test.YtahakgmfkplidaaBase2
import Derived.Laws.Cells
namespace Go.Peri
open Go.RowKit
section
variable {α : Type}
/-- A slice that reads as a list of elements, k cells each; p says of its block what is known. -/
def RowsOf (p : Nat → Prop) (enc : α → List Value) (k : Nat) (w : World) (v : Value) (l : List α) : Prop :=
  ∃ a cap, v = .slice a l.length cap ∧ l.length ≤ cap ∧ cap ≤ maxLen ∧ (a = none → cap = 0) ∧
    (l = [] ∨ ∃ b off, a = some ⟨b, off, none⟩ ∧ p b ∧ ∀ i (hi : i < l.length) j u, (enc l[i])[j]? = some u → w.cell? ⟨b, off + i * k + j, none⟩ = some u)
theorem RowsOf.imp {p q : Nat → Prop} {enc : α → List Value} {k : Nat} {w : World} {v : Value} {l : List α} (h : RowsOf p enc k w v l) (hpq : ∀ b, p b → q b) : RowsOf q enc k w v l := by
  obtain ⟨a, cap, h1, h2, h3, h4, h5⟩ := h
  exact ⟨a, cap, h1, h2, h3, h4, h5.imp id fun ⟨b, off, g1, g2, g3⟩ => ⟨b, off, g1, hpq b g2, g3⟩⟩
theorem RowsOf.cells {p : Nat → Prop} {enc : α → List Value} {k : Nat} {w w' : World} {v : Value} {l : List α} (h : RowsOf p enc k w v l) (hc : ∀ b o, p b → w'.cell? ⟨b, o, none⟩ = w.cell? ⟨b, o, none⟩) : RowsOf p enc k w' v l := by
  obtain ⟨a, cap, h1, h2, h3, h4, h5⟩ := h
  exact ⟨a, cap, h1, h2, h3, h4, h5.imp id fun ⟨b, off, g1, g2, g3⟩ => ⟨b, off, g1, g2, fun i hi j u hu => (hc b _ g2).trans (g3 i hi j u hu)⟩⟩
theorem RowsOf.below {p : Nat → Prop} {enc : α → List Value} {k B : Nat} {w w' : World} {v : Value} {l : List α} (h : RowsOf p enc k w v l) (ho : Below B w w') (hp : ∀ b, p b → b < B) : RowsOf p enc k w' v l :=
  h.cells fun b o hb => ho.cell (p := ⟨b, o, none⟩) (hp b hb)
theorem RowsOf.only {p : Nat → Prop} {enc : α → List Value} {k : Nat} {S : List Nat} {w w' : World} {v : Value} {l : List α} (h : RowsOf p enc k w v l) (ho : Only S w w') (hp : ∀ b, p b → b < w.heap.size ∧ b ∉ S) : RowsOf p enc k w' v l :=
  h.cells fun b o hb => ho.cell (p := ⟨b, o, none⟩) (hp b hb).1 (hp b hb).2
theorem RowsOf.nil (p : Nat → Prop) (enc : α → List Value) (k : Nat) (w : World) : RowsOf p enc k w (.slice none 0 0) [] := ⟨none, 0, rfl, Nat.le_refl _, Nat.zero_le _, fun _ => rfl, .inl rfl⟩
theorem flat_length {enc : α → List Value} {k : Nat} (hk : ∀ x, (enc x).length = k) : ∀ l : List α, (l.flatMap enc).length = l.length * k
  | [] => by simp
  | x :: l => by rw [List.flatMap_cons, List.length_append, hk, flat_length hk l, List.length_cons, Nat.succ_mul, Nat.add_comm]
theorem flat_get {enc : α → List Value} {k : Nat} (hk : ∀ x, (enc x).length = k) : ∀ (l : List α) (i : Nat) (hi : i < l.length) (j : Nat), j < k → (l.flatMap enc)[i * k + j]? = (enc l[i])[j]?
  | x :: l, 0, _, j, hj => by rw [List.flatMap_cons, Nat.zero_mul, Nat.zero_add, List.getElem?_append_left (by rw [hk]; exact hj)]; rfl
  | x :: l, i + 1, hi, j, hj => by
    rw [List.flatMap_cons, List.getElem?_append_right (by rw [hk, Nat.succ_mul]; omega), hk, show (i + 1) * k + j - k = i * k + j by rw [Nat.succ_mul]; omega]
    exact flat_get hk l i (by simpa using hi) j hj
theorem Cellz.rows {p : Nat → Prop} {enc : α → List Value} {k : Nat} (hk : ∀ x, (enc x).length = k) {w : World} {v : Value} {l : List α} (h : Cellz p k w v l.length (l.flatMap enc)) : RowsOf p enc k w v l := by
  obtain ⟨h0, a, cap, h1, h2, h3, h4, h5⟩ := h
  refine ⟨a, cap, h1, h2, h3, h4, h5.imp List.length_eq_zero_iff.1 ?_⟩
  rintro ⟨b, off, g1, g2, g3⟩
  refine ⟨b, off, g1, g2, fun i hi j u hu => ?_⟩
  have hj : j < k := by have := (List.getElem?_eq_some_iff.1 hu).1; rw [hk] at this; exact this
  have hlt : i * k + j < (l.flatMap enc).length := by
    rw [flat_length hk]
    calc i * k + j < i * k + k := by omega
      _ = (i + 1) * k := (Nat.succ_mul i k).symm
      _ ≤ l.length * k := Nat.mul_le_mul_right _ hi
  have e := flat_get hk l i hi j hj
  rw [hu] at e
  rw [Nat.add_assoc, g3 _ hlt, List.getD, e]
  rfl
theorem RowsOf.cellz {p : Nat → Prop} {enc : α → List Value} {k : Nat} (hk : ∀ x, (enc x).length = k) {w : World} {v : Value} {l : List α} (h : RowsOf p enc k w v l) : Cellz p k w v l.length (l.flatMap enc) := by
  obtain ⟨a, cap, h1, h2, h3, h4, h5⟩ := h
  refine ⟨flat_length hk l, a, cap, h1, h2, h3, h4, h5.imp (fun e => by rw [e]; rfl) ?_⟩
  rintro ⟨b, off, g1, g2, g3⟩
  refine ⟨b, off, g1, g2, fun n hn => ?_⟩
  rw [flat_length hk] at hn
  have hkp : 0 < k := by rcases Nat.eq_zero_or_pos k with e | e; · rw [e] at hn; simp at hn
                         · exact e
  have hi : n / k < l.length := Nat.div_lt_of_lt_mul (by rw [Nat.mul_comm]; exact hn)
  have hj : n % k < k := Nat.mod_lt _ hkp
  have e : n / k * k + n % k = n := by rw [Nat.mul_comm]; exact Nat.div_add_mod n k
  have e2 := flat_get hk l _ hi _ hj
  rw [e] at e2
  have hu : (enc l[n / k])[n % k]? = some ((enc l[n / k])[n % k]'(by rw [hk]; exact hj)) := List.getElem?_eq_getElem _
  have := g3 _ hi _ _ hu
  rw [Nat.add_assoc, e] at this
  rw [this, List.getD, e2, hu]
  rfl
theorem RowsOf.of_owns {enc : α → List Value} {k : Nat} (hk : ∀ x, (enc x).length = k) {w : World} {base : Nat} {e : TypeId} {v : Value} {l : List α} (h : w.ownsRow base e k v l.length (l.flatMap enc)) : RowsOf (fun b => base ≤ b ∧ b < w.heap.size) enc k w v l :=
  (Cellz.of_owns h).rows hk
theorem RowsOf.lt {p : Nat → Prop} {enc : α → List Value} {k : Nat} (hk : ∀ x, (enc x).length = k) (hs : 0 < k) {w : World} {v : Value} {l : List α} (h : RowsOf p enc k w v l) : RowsOf (fun b => p b ∧ b < w.heap.size) enc k w v l :=
  ((h.cellz hk).lt hs).rows hk

/-- The whole element, loaded. -/
theorem RowsOf.load (P : Program) {enc : α → List Value} {k : Nat} (hk : ∀ x, (enc x).length = k) {w : World} {b off : Nat} {l : List α}
    (g3 : ∀ i (hi : i < l.length) j u, (enc l[i])[j]? = some u → w.cell? ⟨b, off + i * k + j, none⟩ = some u) (i : Nat) (hi : i < l.length) :
    Sem.run P (loadCellsFrom ⟨b, off + i * k, none⟩ 0 k #[]) w = .ok (enc l[i]).toArray w :=
  by
  have := run_loadCells_list (P := P) (w := w) ⟨b, off + i * k, none⟩ (enc l[i]) (fun j u hj => by rw [Addr.add_lit]; exact g3 i hi j u hj)
  rw [hk] at this
  simpa [loadCells] using this

/-- What argument slices read as. -/
theorem rows_of_arg {w : World} {B by_ : Nat} {e : Ty} {enc : α → List Value} {wf : α → Prop} (hsz : ∀ x, (enc x).length = e.size)
    (hrd : ∀ cs, Rd w B e cs → ∃ x, cs = enc x ∧ wf x) {v : Value} (h : Arg w B (.slice by_ e) v) :
    ∃ l : List α, RowsOf (· < B) enc e.size w v l ∧ l.length * by_ ≤ 140737488351232 ∧ ∀ x ∈ l, wf x := by
  obtain ⟨a, len, cap, hv, h1, h2, h3, h4, xs, h5, h6, h7⟩ := h
  cases hv
  have hl : ∀ xs : List (List Value), (∀ x ∈ xs, x.length = e.size ∧ Rd w B e x) → ∃ l : List α, xs = l.map enc ∧ ∀ x ∈ l, wf x := by
    intro xs
    induction xs with
    | nil => exact fun _ => ⟨[], rfl, by simp⟩
    | cons x xs ih =>
      intro h
      obtain ⟨l, e1, hw⟩ := ih fun y hy => h y (by simp [hy])
      obtain ⟨y, e2, hy⟩ := hrd x (h x (by simp)).2
      exact ⟨y :: l, by rw [e1, e2]; rfl, by simpa using ⟨hy, hw⟩⟩
  obtain ⟨l, rfl, hw⟩ := hl xs h6
  rw [List.length_map] at h5
  subst h5
  refine ⟨l, ⟨a, cap, rfl, h1, h2, h4, h7.imp List.length_eq_zero_iff.1 ?_⟩, Nat.le_trans (Nat.mul_le_mul_right _ h1) h3, hw⟩
  rintro ⟨b, off, g1, g2, g3⟩
  refine ⟨b, off, g1, g2, fun i hi j u hu => ?_⟩
  have hj : j < e.size := by have := (List.getElem?_eq_some_iff.1 hu).1; rw [hsz] at this; exact this
  have := g3 i j hi hj
  rw [Nat.add_assoc, this]
  simp [hi, hu]
end
end Go.Peri
