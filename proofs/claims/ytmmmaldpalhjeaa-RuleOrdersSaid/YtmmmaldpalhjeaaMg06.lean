/- Plain law of layer 12 (rule): by rank, those of one rank as they stood. No program in sight. Plain law of layer 12 (rule): a list that falls is told by those of each rank; the insertion sort is the order by rank. No program in sight. General lemmas: a row that is owned, and the sort's words for rows of k cells. No program in sight. Walks of layer 12 (rule): rules by their rank: the stable sort of few; no condition. Walks of layer 12 (rule): Order on few rules; no condition. Walks of layer 12 (rule): which rule is the best so far; no condition. Walks of layer 15 (chance) for layer 16; no condition. Walks of layers 12 and 14: whether a rule hits; which rule of a table hits; no condition. -/
import Derived.Test.YtmmmaldpalhjeaaMg01
import Derived.Sort.LotA
import Derived.Sort.WalkA
import Derived.Test.YtmmmaldpalhjeaaMg02
import Derived.Shelf.SlSortCmp.InsertionK
import Derived.Test.YtmmmaldpalhjeaaMg05
import Derived.Deep.Cut
import Derived.Test.YtmmmaldpalhjeaaMg04
namespace Go.Peri
namespace Srt
section
variable {α : Type} (f : α → Int)
/-- Put behind all that are no less. -/
def ins (x : α) : List α → List α
  | [] => [x]
  | y :: l => if f x ≤ f y then y :: ins x l else x :: y :: l
def order (l : List α) : List α := l.foldl (fun out x => ins f x out) []
def Desc (l : List α) : Prop := ∀ i j (hi : i < l.length) (hj : j < l.length), i ≤ j → f l[j] ≤ f l[i]
theorem order_snoc (l : List α) (x : α) : order f (l ++ [x]) = ins f x (order f l) := by
  unfold order
  rw [List.foldl_append]
  rfl
theorem ins_length (x : α) : ∀ l : List α, (ins f x l).length = l.length + 1
  | [] => rfl
  | y :: l => by
    unfold ins
    split
    · rw [List.length_cons, ins_length x l, List.length_cons]
    · rfl
theorem order_length (l : List α) : (order f l).length = l.length := by
  suffices h : ∀ (l out : List α), (l.foldl (fun out x => ins f x out) out).length = out.length + l.length by
    have := h l []
    simpa [order] using this
  intro l
  induction l with
  | nil => intro out; rfl
  | cons x l ih =>
    intro out
    show (l.foldl _ (ins f x out)).length = _
    rw [ih, ins_length, List.length_cons]
    omega
theorem ins_at (x : α) : ∀ (out : List α) (j : Nat), j ≤ out.length → (∀ y ∈ out.drop j, f y < f x) → (∀ y ∈ out.take j, f x ≤ f y) → ins f x out = out.take j ++ x :: out.drop j
  | [], j, _, _, _ => by simp [ins]
  | y :: l, 0, _, h1, _ => by
    have := h1 y (by simp)
    unfold ins
    rw [if_neg (by omega)]
    rfl
  | y :: l, j + 1, hj, h1, h2 => by
    have := h2 y (by simp)
    unfold ins
    rw [if_pos this]
    rw [ins_at x l j (by simpa using hj) (fun z hz => h1 z (by simpa using hz)) (fun z hz => h2 z (by simp [hz]))]
    rfl
theorem desc_take {out : List α} (h : Desc f out) {x : α} {j : Nat} (hj : j < out.length) (hx : f x ≤ f out[j]) : ∀ y ∈ out.take (j + 1), f x ≤ f y := by
  intro y hy
  obtain ⟨i, hi, rfl⟩ := List.mem_iff_getElem.1 hy
  rw [List.length_take] at hi
  rw [List.getElem_take]
  have := h i j (by omega) hj (by omega)
  omega
theorem desc_drop {out : List α} (h : Desc f out) {x : α} {j : Nat} (hj : j < out.length) (hx : f out[j] < f x) : ∀ y ∈ out.drop j, f y < f x := by
  intro y hy
  obtain ⟨i, hi, rfl⟩ := List.mem_iff_getElem.1 hy
  rw [List.length_drop] at hi
  rw [List.getElem_drop]
  have := h j (j + i) hj (by omega) (by omega)
  omega
theorem ins_mem (x z : α) : ∀ l : List α, z ∈ ins f x l ↔ z = x ∨ z ∈ l
  | [] => by simp [ins]
  | y :: l => by
    unfold ins
    split
    · rw [List.mem_cons, ins_mem x z l, List.mem_cons]
      exact ⟨fun h => h.elim (fun h => .inr (.inl h)) (fun h => h.elim .inl (fun h => .inr (.inr h))), fun h => h.elim (fun h => .inr (.inl h)) (fun h => h.elim .inl (fun h => .inr (.inr h)))⟩
    · rw [List.mem_cons]
theorem order_mem (z : α) (l : List α) : z ∈ order f l ↔ z ∈ l := by
  suffices h : ∀ (l out : List α), z ∈ l.foldl (fun out x => ins f x out) out ↔ z ∈ out ∨ z ∈ l by
    have := h l []
    simpa [order] using this
  intro l
  induction l with
  | nil => intro out; simp
  | cons x l ih =>
    intro out
    show z ∈ l.foldl _ (ins f x out) ↔ _
    rw [ih, ins_mem, List.mem_cons]
    exact ⟨fun h => h.elim (fun h => h.elim (fun h => .inr (.inl h)) .inl) (fun h => .inr (.inr h)), fun h => h.elim (fun h => .inl (.inr h)) (fun h => h.elim (fun h => .inl (.inl h)) .inr)⟩
/-- Falling, as a pairwise fact. -/
def Falls : List α → Prop
  | [] => True
  | x :: l => (∀ y ∈ l, f y ≤ f x) ∧ Falls l
theorem falls_ins (x : α) : ∀ l : List α, Falls f l → Falls f (ins f x l)
  | [], _ => ⟨by simp, trivial⟩
  | y :: l, ⟨h1, h2⟩ => by
    unfold ins
    split
    · rename_i hxy
      exact ⟨fun z hz => ((ins_mem f x z l).1 hz).elim (fun h => h ▸ hxy) (h1 z), falls_ins x l h2⟩
    · rename_i hxy
      refine ⟨fun z hz => ?_, h1, h2⟩
      rcases List.mem_cons.1 hz with rfl | hz
      · omega
      · have := h1 z hz; omega
theorem falls_order (l : List α) : Falls f (order f l) := by
  suffices h : ∀ (l out : List α), Falls f out → Falls f (l.foldl (fun out x => ins f x out) out) by exact h l [] trivial
  intro l
  induction l with
  | nil => intro out h; exact h
  | cons x l ih => intro out h; exact ih _ (falls_ins f x out h)
theorem falls_desc : ∀ l : List α, Falls f l → Desc f l
  | [], _ => fun i j hi => absurd hi (by simp)
  | x :: l, ⟨h1, h2⟩ => by
    intro i j hi hj hij
    match i, j with
    | 0, 0 => exact Int.le_refl _
    | 0, j + 1 => exact h1 _ (List.getElem_mem _)
    | i + 1, j + 1 => exact falls_desc l h2 i j (by simpa using hi) (by simpa using hj) (by omega)
theorem order_desc (l : List α) : Desc f (order f l) := falls_desc f _ (falls_order f l)
/-- Those of one rank stand as they stood. -/
theorem ins_filter (x : α) (k : Int) : ∀ l : List α, Falls f l → (ins f x l).filter (fun y => decide (f y = k)) = l.filter (fun y => decide (f y = k)) ++ (if f x = k then [x] else [])
  | [], _ => by by_cases h : f x = k <;> simp [ins, h]
  | y :: l, ⟨h1, h2⟩ => by
    unfold ins
    split
    · rw [List.filter_cons, List.filter_cons, ins_filter x k l h2]
      split <;> rfl
    · rename_i hxy
      by_cases h : f x = k
      · have hn : (y :: l).filter (fun y => decide (f y = k)) = [] := by
          rw [List.filter_eq_nil_iff]
          intro z hz
          rcases List.mem_cons.1 hz with rfl | hz
          · simp; omega
          · have := h1 z hz; simp; omega
        rw [List.filter_cons, hn]
        simp [h]
      · rw [List.filter_cons]
        simp [h]
theorem order_filter (l : List α) (k : Int) : (order f l).filter (fun y => decide (f y = k)) = l.filter (fun y => decide (f y = k)) := by
  suffices h : ∀ (l out : List α), Falls f out → (l.foldl (fun out x => ins f x out) out).filter (fun y => decide (f y = k)) = out.filter (fun y => decide (f y = k)) ++ l.filter (fun y => decide (f y = k)) by
    have := h l [] trivial
    simpa [order] using this
  intro l
  induction l with
  | nil => intro out _; simp
  | cons x l ih =>
    intro out h
    show (l.foldl _ (ins f x out)).filter _ = _
    rw [ih _ (falls_ins f x out h), ins_filter f x k out h, List.filter_cons]
    by_cases hx : f x = k <;> simp [hx]
/-- What falls already is ordered. -/
theorem order_of_falls (l : List α) (h : Falls f l) : order f l = l := by
  suffices hh : ∀ (l out : List α), Falls f (out ++ l) → l.foldl (fun out x => ins f x out) out = out ++ l by exact hh l [] h
  intro l
  induction l with
  | nil => intro out _; simp
  | cons x l ih =>
    intro out h
    have e : ins f x out = out ++ [x] := by
      rw [ins_at f x out out.length (Nat.le_refl _) (by simp) (fun y hy => ?_)]
      · simp
      · rw [List.take_length] at hy
        have : ∀ (a b : List α), Falls f (a ++ b) → ∀ y ∈ a, ∀ z ∈ b, f z ≤ f y := by
          intro a
          induction a with
          | nil => intro b _ y hy; simp at hy
          | cons w a iha =>
            intro b hab y hy z hz
            rcases List.mem_cons.1 hy with rfl | hy
            · exact hab.1 z (by simp [hz])
            · exact iha b hab.2 y hy z hz
        exact this out (x :: l) h y hy x (by simp)
    show l.foldl _ (ins f x out) = _
    rw [e, ih (out ++ [x]) (by simpa using h)]
    simp
end
end Srt
end Go.Peri
namespace Go.Peri
namespace Srt
section
variable {α : Type} (f : α → Int)
theorem falls_of_desc : ∀ l : List α, Desc f l → Falls f l
  | [], _ => trivial
  | x :: l, h => by
    refine ⟨fun y hy => ?_, falls_of_desc l fun i j hi hj hij => ?_⟩
    · obtain ⟨i, hi, rfl⟩ := List.mem_iff_getElem.1 hy
      exact h 0 (i + 1) (by simp) (by simpa using hi) (by omega)
    · exact h (i + 1) (j + 1) (by simpa using hi) (by simpa using hj) (by omega)
theorem eq_of_filter : ∀ l m : List α, Falls f l → Falls f m → (∀ k, l.filter (fun y => decide (f y = k)) = m.filter (fun y => decide (f y = k))) → l = m
  | [], [], _, _, _ => rfl
  | [], y :: m, _, _, h => by
    have := h (f y)
    simp at this
  | x :: l, [], _, _, h => by
    have := h (f x)
    simp at this
  | x :: l, y :: m, h1, h2, h => by
    have hx := h (f x)
    have hy := h (f y)
    have e : f x = f y := by
      have m1 : x ∈ (y :: m).filter (fun z => decide (f z = f x)) := by rw [← hx]; simp
      have m2 : y ∈ (x :: l).filter (fun z => decide (f z = f y)) := by rw [hy]; simp
      have n1 := (List.mem_filter.1 m1).1
      have n2 := (List.mem_filter.1 m2).1
      have g1 : f x ≤ f y := by
        rcases List.mem_cons.1 n1 with rfl | n1
        · exact Int.le_refl _
        · exact h2.1 x n1
      have g2 : f y ≤ f x := by
        rcases List.mem_cons.1 n2 with rfl | n2
        · exact Int.le_refl _
        · exact h1.1 y n2
      omega
    have hd : x = y := by
      rw [List.filter_cons, List.filter_cons, if_pos (by simp), if_pos (by simp [e])] at hx
      exact (List.cons.inj hx).1
    subst hd
    congr 1
    refine eq_of_filter l m h1.2 h2.2 fun k => ?_
    have := h k
    rw [List.filter_cons, List.filter_cons] at this
    split at this
    · exact (List.cons.inj this).2
    · exact this
/-- Two neighbours exchanged. -/
theorem swap_split : ∀ (l : List α) (j : Nat) (h : j + 1 < l.length), ∃ a b, l = a ++ l[j] :: l[j + 1] :: b ∧ a.length = j ∧ (l.set (j + 1) l[j]).set j l[j + 1] = a ++ l[j + 1] :: l[j] :: b
  | x :: y :: l, 0, _ => ⟨[], l, rfl, rfl, rfl⟩
  | x :: l, j + 1, h => by
    have hj : j + 1 < l.length := by simpa using h
    obtain ⟨a, b, h1, h2, h3⟩ := swap_split l j hj
    refine ⟨x :: a, b, ?_, by simp [h2], ?_⟩
    · show x :: l = x :: (a ++ l[j] :: l[j + 1] :: b)
      rw [← h1]
    · show x :: (l.set (j + 1) l[j]).set j l[j + 1] = x :: (a ++ l[j + 1] :: l[j] :: b)
      rw [h3]
  | [x], 0, h => absurd h (by simp)
theorem swap_filter (l : List α) (j : Nat) (h : j + 1 < l.length) (hne : f l[j] ≠ f l[j + 1]) (k : Int) : ((l.set (j + 1) l[j]).set j l[j + 1]).filter (fun y => decide (f y = k)) = l.filter (fun y => decide (f y = k)) := by
  obtain ⟨a, b, h1, _, h3⟩ := swap_split l j h
  rw [h3]
  conv => rhs; rw [h1]
  rw [List.filter_append, List.filter_append]
  congr 1
  generalize l[j] = x at hne
  generalize l[j + 1] = y at hne
  by_cases e1 : f x = k
  · have e2 : ¬ f y = k := by omega
    simp [e1, e2]
  · by_cases e2 : f y = k <;> simp [e1, e2]
variable [Inhabited α]
theorem swp_toList (d : Array α) (j : Nat) (h : j + 1 < d.size) : (Sort.swp d (j + 1) j).toList = (d.toList.set (j + 1) (d.toList[j]'(by simp; omega))).set j (d.toList[j + 1]'(by simpa using h)) := by
  unfold Sort.swp
  rw [Array.toList_setIfInBounds, Array.toList_setIfInBounds, getElem!_pos d j (by omega), getElem!_pos d (j + 1) h]
  rfl
theorem insInner_filter (lt : α → α → Bool) (hlt : ∀ x y, lt x y = decide (f y < f x)) (k : Int) (a : Nat) : ∀ (j : Nat) (d : Array α), j < d.size → (Sort.insInner lt a j d).toList.filter (fun y => decide (f y = k)) = d.toList.filter (fun y => decide (f y = k))
  | 0, d, _ => rfl
  | j + 1, d, h => by
    unfold Sort.insInner
    split
    · rename_i hc
      rw [Bool.and_eq_true, hlt] at hc
      have hr := of_decide_eq_true hc.2
      rw [getElem!_pos d j (by omega), getElem!_pos d (j + 1) h] at hr
      rw [insInner_filter lt hlt k a j _ (by rw [Sort.size_swp]; omega), swp_toList d j h, swap_filter f d.toList j (by simpa using h) (by show f d[j] ≠ f d[j + 1]; omega)]
    · rfl
theorem insOuter_filter (lt : α → α → Bool) (hlt : ∀ x y, lt x y = decide (f y < f x)) (k : Int) (a b : Nat) : ∀ (n i : Nat) (d : Array α), b - i = n → b ≤ d.size → (Sort.insOuter lt a b i d).toList.filter (fun y => decide (f y = k)) = d.toList.filter (fun y => decide (f y = k))
  | 0, i, d, hn, _ => by rw [Sort.insOuter, if_neg (by omega)]
  | n + 1, i, d, hn, hb => by
    rw [Sort.insOuter, if_pos (by omega)]
    have hs : ∀ (j : Nat) (d : Array α), (Sort.insInner lt a j d).size = d.size := by
      intro j
      induction j with
      | zero => intro d; rfl
      | succ j ih =>
        intro d
        unfold Sort.insInner
        split
        · rw [ih, Sort.size_swp]
        · rfl
    rw [insOuter_filter lt hlt k a b n (i + 1) _ (by omega) (by rw [hs]; exact hb), insInner_filter f lt hlt k a i d (by omega)]
omit [Inhabited α] in
theorem swo (lt : α → α → Bool) (hlt : ∀ x y, lt x y = decide (f y < f x)) : Sort.SWO lt where
  irrefl := fun x => by rw [hlt]; simp
  trans := fun x y z h1 h2 => by
    rw [hlt, decide_eq_true_eq] at h1 h2 ⊢
    omega
  ntrans := fun x y z h1 h2 => by
    rw [hlt, decide_eq_false_iff_not] at h1 h2 ⊢
    omega
theorem size_insertionSort (lt : α → α → Bool) (hlt : ∀ x y, lt x y = decide (f y < f x)) (d : Array α) (a b : Nat) (hab : a ≤ b) (hb : b ≤ d.size) : (Sort.insertionSort lt d a b).size = d.size :=
  (Sort.insertionSort_holds (swo f lt hlt) d a b hab hb).1.1
/-- THE INSERTION SORT IS THE ORDER BY RANK. -/
theorem insertionSort_order (lt : α → α → Bool) (hlt : ∀ x y, lt x y = decide (f y < f x)) (d : Array α) : (Sort.insertionSort lt d 0 d.size).toList = order f d.toList := by
  obtain ⟨hp, hs⟩ := Sort.insertionSort_holds (swo f lt hlt) d 0 d.size (Nat.zero_le _) (Nat.le_refl _)
  refine eq_of_filter f _ _ (falls_of_desc f _ fun i j hi hj hij => ?_) (falls_order f _) fun k => ?_
  · rcases Nat.lt_or_eq_of_le hij with hlt2 | rfl
    · have hi2 : i < (Sort.insertionSort lt d 0 d.size).size := by simpa using hi
      have hj2 : j < (Sort.insertionSort lt d 0 d.size).size := by simpa using hj
      have := hs i j (Nat.zero_le _) hlt2 (by rw [← hp.1]; exact hj2)
      rw [hlt, decide_eq_false_iff_not, getElem!_pos _ j hj2, getElem!_pos _ i hi2] at this
      show f (Sort.insertionSort lt d 0 d.size)[j] ≤ f (Sort.insertionSort lt d 0 d.size)[i]
      omega
    · exact Int.le_refl _
  · rw [order_filter]
    exact insOuter_filter f lt hlt k 0 d.size _ 1 d rfl (Nat.le_refl _)
end
end Srt
end Go.Peri
namespace Go.Peri
namespace Srt
theorem ins_map {α β : Type} (f : α → Int) (g : α → β) (f' : β → Int) (h : ∀ x, f' (g x) = f x) (x : α) : ∀ l : List α, (ins f x l).map g = ins f' (g x) (l.map g)
  | [] => rfl
  | y :: l => by
    unfold ins
    rw [List.map_cons]
    show _ = if f' (g x) ≤ f' (g y) then _ else _
    rw [h, h]
    split
    · rw [List.map_cons, ins_map f g f' h x l]
    · rfl
theorem order_map {α β : Type} (f : α → Int) (g : α → β) (f' : β → Int) (h : ∀ x, f' (g x) = f x) (l : List α) : (order f l).map g = order f' (l.map g) := by
  suffices hh : ∀ (l out : List α), (l.foldl (fun out x => ins f x out) out).map g = (l.map g).foldl (fun out x => ins f' x out) (out.map g) by exact hh l []
  intro l
  induction l with
  | nil => intro out; rfl
  | cons x l ih =>
    intro out
    show (l.foldl _ (ins f x out)).map g = (l.map g).foldl _ (ins f' (g x) (out.map g))
    rw [ih, ins_map f g f' h]
end Srt
end Go.Peri
namespace Go.Peri
open Go.RowKit Go.Sort Go.Proofs
section
variable {α : Type} [Inhabited α]
/-- The sort's flat row is the list's. -/
theorem flatK_list {enc : α → List Value} {k : Nat} (hk : ∀ x, (enc x).length = k) (l : List α) : flatK enc k l.toArray = (l.flatMap enc).toArray := by
  refine Sort.ext_get! (by simp [flat_length hk]) fun t ht => ?_
  have ht' : t < l.length * k := by simpa using ht
  have k0 : 0 < k := by
    rcases Nat.eq_zero_or_pos k with h | h
    · subst h; simp at ht'
    · exact h
  have hi : t / k < l.length := Nat.div_lt_of_lt_mul (by rw [Nat.mul_comm]; exact ht')
  have hj : t % k < k := Nat.mod_lt _ k0
  have e : t / k * k + t % k = t := by rw [Nat.mul_comm]; exact Nat.div_add_mod t k
  have hg := flat_get hk l _ hi _ hj
  rw [e] at hg
  rw [get_flatK enc k _ t (by simpa using ht')]
  have h1 : (l.toArray[t / k]! : α) = l[t / k] := by rw [getElem!_pos _ _ (by simpa using hi)]; rfl
  rw [h1, getElem!_pos _ _ (by rw [hk]; exact hj), getElem!_pos _ _ (by simpa [flat_length hk] using ht')]
  rw [List.getElem?_eq_getElem (by rw [flat_length hk]; exact ht'), List.getElem?_eq_getElem (by rw [hk]; exact hj)] at hg
  exact (Option.some.inj hg).symm
theorem holdsK_of_owns {enc : α → List Value} {k : Nat} (hk : ∀ x, (enc x).length = k) {w : World} {base g cap : Nat} {e : TypeId} {l : List α} (h : w.ownsRow base e k (.slice (some ⟨g, 0, none⟩) l.length cap) l.length (l.flatMap enc)) : HoldsK enc k w g 0 l.toArray := by
  unfold HoldsK
  rw [flatK_list hk]
  intro j hj
  have hj2 : j < l.length * k := by simpa [flat_length hk] using hj
  refine ⟨?_, h.frozenAt _⟩
  rw [Nat.zero_add, h.cellAt j hj2, List.getElem?_eq_getElem (by rw [flat_length hk]; exact hj2)]
  show some _ = some ((List.flatMap enc l).toArray[j]!)
  rw [getElem!_pos (List.flatMap enc l).toArray j hj]
  rfl
theorem owns_sorted {enc : α → List Value} {k : Nat} (hk : ∀ x, (enc x).length = k) {w : World} {base g cap : Nat} {e : TypeId} {l : List α} (h : w.ownsRow base e k (.slice (some ⟨g, 0, none⟩) l.length cap) l.length (l.flatMap enc)) (dk : Array α) (hs : dk.size = l.length) (m : Nat) (os : Array Obj) :
    (sortWorldK enc k w g 0 m dk os).ownsRow base e k (.slice (some ⟨g, 0, none⟩) l.length cap) l.length (dk.toList.flatMap enc) ∧ Only [g] w (sortWorldK enc k w g 0 m dk os) := by
  have hx := h
  rcases h.2 with ⟨h', _⟩ | ⟨g', cap', cur, h', hb, hg, hnc, hcm, hcs, htake⟩
  · simp at h'
  · simp only [Value.slice.injEq, Option.some.injEq, Addr.mk.injEq, and_true, true_and] at h'
    obtain ⟨rfl, rfl⟩ := h'
    have hglt : g < w.heap.size := (Array.getElem?_eq_some_iff.1 hg).1
    have e1 : flatK enc k dk = (dk.toList.flatMap enc).toArray := by
      have := flatK_list hk dk.toList
      simpa using this
    have hblk : (sortWorldK enc k w g 0 m dk os).heap[g]? = some (.cells (putCells id 0 (flatK enc k dk) cur) e (0, 0)) := by
      show ((w.heap.modify g (onCells (putCells id 0 (flatK enc k dk)))) ++ os)[g]? = _
      rw [Array.getElem?_append_left (by simpa using hglt), Array.getElem?_modify, if_pos rfl, hg]
      rfl
    have hlen : (dk.toList.flatMap enc).length = l.length * k := by rw [flat_length hk]; simp [hs]
    refine ⟨⟨hlen, .inr ⟨g, cap, _, rfl, hb, hblk, hnc, hcm, by simpa [putCells] using hcs, ?_⟩⟩, ?_⟩
    · refine List.ext_getElem? fun t => ?_
      by_cases ht : t < l.length * k
      · have hcl : l.length * k ≤ cap * k := Nat.mul_le_mul_right _ hnc
        rw [List.getElem?_take, if_pos ht, Array.getElem?_toList]
        unfold putCells
        rw [Array.getElem?_mapIdx, Array.getElem?_eq_getElem (by omega), Option.map_some, if_pos ⟨Nat.zero_le _, by rw [size_flatK, hs]; omega⟩, Nat.sub_zero, e1, getElem!_pos _ _ (by simpa [hlen] using ht), List.getElem?_eq_getElem (by omega)]
        rfl
      · rw [List.getElem?_take, if_neg ht, List.getElem?_eq_none (by omega)]
    · refine ⟨rfl, rfl, rfl, ?_, fun j hj hn => ?_⟩
      · show w.heap.size ≤ ((w.heap.modify g (onCells (putCells id 0 (flatK enc k dk)))) ++ os).size
        simp
      · show ((w.heap.modify g (onCells (putCells id 0 (flatK enc k dk)))) ++ os)[j]? = _
        rw [Array.getElem?_append_left (by simpa using hj), Array.getElem?_modify, if_neg (by simpa using fun h => hn (by simp [h]))]
end
end Go.Peri
namespace Go.Proofs.Ytmmmaldpalhjeaa
open Go.RowKit Go.Peri Go.Shelf Go.Lib Go.Sort
namespace C12
def rho : Ren := ⟨fun _ => 193, fun t => if t = 0 then 0 else if t = 3 then 3 else if t = 4 then 4 else if t = 22 then 44 else if t = 24 then 60 else 157, fun x => x⟩
theorem bears : Bears Try.prog (rho.f 20) (SlBodyF.n20 rho) := by
  refine ⟨_, ?_, Try.func193⟩
  rfl
theorem lays : SlLaysF0.n20 Try.prog rho where
  mixed := by kernel_rfl
  f20 := bears
  t0 := Try.underlying0
  a0 := Try.isAgg0
  z0 := Try.sizeOf0
  v0 := Try.zeroValue0
  t3 := Try.underlying3
  a3 := Try.isAgg3
  z3 := Try.sizeOf3
  v3 := Try.zeroValue3
  t4 := Try.underlying4
  a4 := Try.isAgg4
  z4 := Try.sizeOf4
  v4 := Try.zeroValue4
  t22 := Try.underlying44
  a22 := Try.isAgg44
  z22 := Try.sizeOf44
  v22 := Try.zeroValue44
  t25 := Try.underlying157
  a25 := Try.isAgg157
  z25 := Try.sizeOf157
  v25 := Try.zeroValue157
def cf (x y : Rl) : Int := cmpR x.rank y.rank
theorem cf_lt (x y : Rl) : ltOf cf x y = decide (y.rank < x.rank) := by
  unfold ltOf cf cmpR
  by_cases h1 : y.rank < x.rank
  · simp [h1]
  · by_cases h2 : x.rank < y.rank <;> simp [h1, h2]
set_option maxRecDepth 100000 in
theorem cmp_lays (x y : Rl) (w : World) : Calls Try.prog 110 #[.agg x.enc.toArray, .agg y.enc.toArray] w fun e w' => e = .returned (.int .i64 (cf x y)) ∧ ∃ q os', w' = grow (w.drewN q) os' := by
  obtain ⟨c, hc⟩ : ∃ c, cf x y = c := ⟨_, rfl⟩
  rw [hc]
  unfold cf cmpR at hc
  show Calls Try.prog 110 #[.agg #[.int .i64 x.rank, .slice x.pa x.preds.length x.pcap, .string x.target, .int .i64 x.ap, .int .i64 x.as_, .int .i64 x.dp, .int .i64 x.dt, .int .i64 x.mp, .string x.mirror, .int .i64 x.sample], .agg #[.int .i64 y.rank, .slice y.pa y.preds.length y.pcap, .string y.target, .int .i64 y.ap, .int .i64 y.as_, .int .i64 y.dp, .int .i64 y.dt, .int .i64 y.mp, .string y.mirror, .int .i64 y.sample]] w _
  by_cases h1 : y.rank < x.rank
  · rw [if_pos h1] at hc
    subst hc
    go_enter Try.func110, Try.ntmps110
    go_wp2
    go_ret
    exact ⟨rfl, 0, _, by rw [alloc_eq_grow, alloc_eq_grow, grow_grow]; rfl⟩
  rw [if_neg h1] at hc
  by_cases h2 : x.rank < y.rank
  · rw [if_pos h2] at hc
    subst hc
    go_enter Try.func110, Try.ntmps110
    go_wp2
    go_ret
    exact ⟨rfl, 0, _, by rw [alloc_eq_grow, alloc_eq_grow, grow_grow]; rfl⟩
  rw [if_neg h2] at hc
  subst hc
  go_enter Try.func110, Try.ntmps110
  go_wp2
  go_ret
  exact ⟨rfl, 0, _, by rw [alloc_eq_grow, alloc_eq_grow, grow_grow]; rfl⟩
theorem eg110 : ∀ args w, (callFunc 110 args).run Try.prog w = .ok (.enter 110 args) w := enters_of Try.func110 (by kernel_rfl) rfl
theorem insertion_any (blk off cap a b : Nat) (d : Array Rl) (w : World) (hH : HoldsK Rl.enc 10 w blk off d) (hblk : blk < w.heap.size) (hab : a ≤ b) (hb : b ≤ d.size) (hsz : d.size < 4611686018427387904) :
    Calls Try.prog 193 #[.slice (some ⟨blk, off, none⟩) d.size cap, .int .i64 a, .int .i64 b, .func (.func 110) #[] #[]] w fun e w' =>
      e = .returned (.tuple #[]) ∧ ∃ n os, w' = sortWorldK Rl.enc 10 w blk off n (Sort.insertionSort (ltOf cf) d a b) os :=
  AnyQ.insertionSortCmpFunc lays 10 Try.isAgg60 Try.sizeOf60 Rl.enc Rl.enc_length (fun x v hv => Rl.one [x] v (by simpa using hv)) cf 110 #[] blk off cap a b d w eg110 (fun _ _ _ _ x y => cmp_lays x y _) hH hblk hab hb hsz
end C12
end Go.Proofs.Ytmmmaldpalhjeaa
namespace Go.Proofs.Ytmmmaldpalhjeaa
open Go.RowKit Go.Peri
namespace C12
theorem order_core {l m : List Rl} (h : l.map Rl.core = m.map Rl.core) : (Srt.order Rl.rank l).map Rl.core = (Srt.order Rl.rank m).map Rl.core := by
  rw [Srt.order_map Rl.rank Rl.core Rl.rank (fun _ => rfl), Srt.order_map Rl.rank Rl.core Rl.rank (fun _ => rfl), h]
theorem ins_none (p : Option Addr) (cap : Nat) (fv : Value) (w : World) : Calls Try.prog 193 #[.slice p 0 cap, .int .i64 0, .int .i64 0, fv] w fun e w' => e = .returned (.tuple #[]) ∧ w' = w := by
  go_enter Try.func193, Try.ntmps193
  go_wp2
  refine wp_loop_rounds 1 ?_
  rw [rounds_succ]
  go_wp2
  go_end0
  exact ⟨rfl, rfl⟩
theorem ins_all (base : Nat) (v : Value) (l : List Rl) (w : World) (h : w.ownsRow base 60 10 v l.length (l.flatMap Rl.enc)) (hl : l.length ≤ 1000000) :
    Calls Try.prog 193 #[v, .int .i64 0, .int .i64 l.length, .func (.func 110) #[] #[]] w fun e w' =>
      e = .returned (.tuple #[]) ∧ w'.ownsRow base 60 10 v l.length ((Srt.order Rl.rank l).flatMap Rl.enc) ∧ Only (blocks v) w w' := by
  by_cases h0 : l.length = 0
  · have hl0 := List.length_eq_zero_iff.1 h0
    subst hl0
    obtain ⟨a, cap, rfl⟩ := owns_form h
    exact (ins_none a cap _ w).mono fun e w' ⟨h1, h2⟩ => ⟨h1, by rw [h2]; exact h, by rw [h2]; exact Only.refl _ _⟩
  · obtain ⟨g, cap, rfl, _, hg⟩ := owns_at h (by omega)
    have hH := holdsK_of_owns Rl.enc_length h
    have hc := insertion_any g 0 cap 0 l.toArray.size l.toArray w hH hg (Nat.zero_le _) (Nat.le_refl _) (by simp; omega)
    refine Calls.mono (by simpa using hc) ?_
    rintro e w' ⟨rfl, n, os, rfl⟩
    have hs : (Sort.insertionSort (ltOf cf) l.toArray 0 l.length).size = l.length := by
      have := Srt.size_insertionSort Rl.rank (ltOf cf) cf_lt l.toArray 0 l.length (Nat.zero_le _) (by simp)
      simpa using this
    have ho : (Sort.insertionSort (ltOf cf) l.toArray 0 l.length).toList = Srt.order Rl.rank l := by
      have := Srt.insertionSort_order Rl.rank (ltOf cf) cf_lt l.toArray
      simpa using this
    have := owns_sorted Rl.enc_length h _ hs n os
    rw [ho] at this
    exact ⟨rfl, this.1, this.2⟩
set_option maxRecDepth 100000 in
theorem stable_any (base : Nat) (v : Value) (l : List Rl) (w : World) (h : w.ownsRow base 60 10 v l.length (l.flatMap Rl.enc)) (hl : l.length < 20) :
    Calls Try.prog 160 #[v, .int .i64 l.length, .func (.func 110) #[] #[]] w fun e w' =>
      e = .returned (.tuple #[]) ∧ w'.ownsRow base 60 10 v l.length ((Srt.order Rl.rank l).flatMap Rl.enc) ∧ Only (blocks v) w w' := by
  have HC := hid (ins_all base v l w h (by omega))
  clear h
  generalize l.length = n at hl HC
  go_enter Try.func160, Try.ntmps160
  go_wp2_with fail
  refine wp_loop_rounds 1 ?_
  rw [rounds_succ]
  go_wp2_with fail
  refine HC.out.mono ?_
  rintro e w' ⟨rfl, h1, h2⟩
  have H1 := hid h1
  have H2 := hid h2
  clear h1 h2
  go_wp2_with fail
  refine wp_loop_rounds 1 ?_
  rw [rounds_succ]
  go_wp2_with fail
  go_end0
  exact ⟨rfl, H1.out, H2.out⟩
theorem sort_any (base : Nat) (v : Value) (l : List Rl) (w : World) (h : w.ownsRow base 60 10 v l.length (l.flatMap Rl.enc)) (hl : l.length < 20) :
    Calls Try.prog 109 #[v, .func (.func 110) #[] #[]] w fun e w' =>
      e = .returned (.tuple #[]) ∧ w'.ownsRow base 60 10 v l.length ((Srt.order Rl.rank l).flatMap Rl.enc) ∧ Only (blocks v) w w' := by
  have HC := hid (stable_any base v l w h hl)
  obtain ⟨a, cap, rfl⟩ := owns_form h
  clear h
  go_enter Try.func109, Try.ntmps109
  go_wp2_with fail
  refine HC.out.mono ?_
  rintro e w' ⟨rfl, h1, h2⟩
  have H1 := hid h1
  have H2 := hid h2
  clear h1 h2
  go_wp2_with fail
  go_end0
  exact ⟨rfl, H1.out, H2.out⟩
/-- Rules by their rank: a row of their own, the predicates in rows of their own. -/
def Ordered (W : World) (l : List Rl) (v : Value) (w' : World) : Prop :=
  ∃ l1 : List Rl, l1.map Rl.core = (Srt.order Rl.rank l).map Rl.core ∧ Below W.heap.size W w' ∧ w'.ownsRow W.heap.size 60 10 v l.length (l1.flatMap Rl.enc) ∧ ∀ x ∈ l1, x.At (fun b => W.heap.size ≤ b ∧ b < w'.heap.size ∧ b ∉ blocks v) w'
set_option maxRecDepth 100000 in
theorem order_any {p : Nat → Prop} (v : Value) (l : List Rl) (W : World) (h : RowsOf p Rl.enc 10 W v l) (hp : ∀ b, p b → b < W.heap.size) (hl : l.length < 20) (ha : ∀ x ∈ l, x.At (· < W.heap.size) W) (hps : ∀ x ∈ l, x.preds.length ≤ 1000000) :
    Calls Try.prog 52 #[v] W (Ret (Ordered W l)) := by
  have HC := hid (copied_any v l W h hp (by omega) ha hps)
  obtain ⟨a, cap, rfl⟩ := h.form
  clear h hp ha hps
  go_enter Try.func52, Try.ntmps52
  go_wp2_with fail
  refine HC.out.mono ?_
  rintro e w1 ⟨v1, rfl, l1, hc1, hb1, hown, hat⟩
  have hlen : l1.length = l.length := by
    have := congrArg List.length hc1
    simpa using this
  obtain ⟨a1, cap1, rfl⟩ := owns_form hown
  have HS := hid (sort_any W.heap.size (.slice a1 l.length cap1) l1 w1 (by rw [hlen]; exact hown) (by omega))
  have HC1 := hid hc1
  have HB1 := hid hb1
  have HAT := hid hat
  have HOW := hid hown
  have HLEN := hid hlen
  clear hown hc1 hb1 hat HC
  go_wp2_with fail
  refine HS.out.mono ?_
  rintro e w2 ⟨rfl, h1, h2⟩
  have HR : Hid (Ordered W l (.slice a1 l.length cap1) w2) := by
    refine ⟨Srt.order Rl.rank l1, order_core HC1.out, HB1.out.trans (h2.below HB1.out.size (fun k hk => (owns_bd HOW.out k hk).1)), ?_, fun x hx => ?_⟩
    · rw [HLEN.out] at h1; exact h1
    · have hx1 := (Srt.order_mem Rl.rank x l1).1 hx
      exact ((HAT.out x hx1).only h2 (fun b hb => hb.2)).imp (fun b hb => ⟨hb.1, Nat.lt_of_lt_of_le hb.2.1 h2.size, hb.2.2⟩)
  clear h1 h2
  go_wp2_with fail
  go_ret
  exact ⟨_, rfl, HR.out⟩
end C12
end Go.Proofs.Ytmmmaldpalhjeaa
namespace Go.Proofs.Ytmmmaldpalhjeaa
open Go.RowKit Go.Peri
namespace C12
/-- Does the next rule hit, and outrank the best so far? -/
def better (hit : Rl → Bool) (l : List Rl) (best : Int) (k : Nat) : Bool := hit (l.getD k default) && (decide (best < 0) || decide ((l.getD best.toNat default).rank < (l.getD k default).rank))
/-- The best of the first k. -/
def firstI (hit : Rl → Bool) (l : List Rl) : Nat → Int
  | 0 => -1
  | k + 1 => if better hit l (firstI hit l k) k then k else firstI hit l k
def firstR (hit : Rl → Bool) (l : List Rl) : Int := firstI hit l l.length
theorem firstI_lt (hit : Rl → Bool) (l : List Rl) : ∀ k, -1 ≤ firstI hit l k ∧ firstI hit l k < k
  | 0 => ⟨Int.le_refl _, by show (-1 : Int) < 0; decide⟩
  | k + 1 => by
    have := firstI_lt hit l k
    unfold firstI
    split
    · exact ⟨by omega, by omega⟩
    · exact ⟨this.1, by omega⟩
theorem firstI_neg (hit : Rl → Bool) (l : List Rl) (k : Nat) (hk : k < l.length) (hn : firstI hit l k < 0) : firstI hit l (k + 1) = if hit l[k] then (k : Int) else firstI hit l k := by
  have e : l.getD k default = l[k] := by simp [List.getD, hk]
  show (if better hit l (firstI hit l k) k then (k : Int) else firstI hit l k) = _
  unfold better
  rw [e, decide_eq_true hn]
  simp
theorem firstI_pos (hit : Rl → Bool) (l : List Rl) (k n : Nat) (hk : k < l.length) (hn : n < l.length) (he : firstI hit l k = n) : firstI hit l (k + 1) = if hit l[k] && decide (l[n].rank < l[k].rank) then (k : Int) else firstI hit l k := by
  have e : l.getD k default = l[k] := by simp [List.getD, hk]
  have e2 : l.getD n default = l[n] := by simp [List.getD, hn]
  show (if better hit l (firstI hit l k) k then (k : Int) else firstI hit l k) = _
  unfold better
  rw [he, e, Int.toNat_natCast, e2, decide_eq_false (show ¬ ((n : Int) < 0) by omega)]
  simp
end C12
end Go.Proofs.Ytmmmaldpalhjeaa
namespace Go.Proofs.Ytmmmaldpalhjeaa
open Go.RowKit Go.Peri
namespace C16
theorem tmod_parts (n : Int) : -100 < n.tmod 100 ∧ n.tmod 100 < 100 ∧ n = 100 * n.tdiv 100 + n.tmod 100 := by
  refine ⟨?_, ?_, ?_⟩
  · have := Int.lt_tmod_of_pos n (show (0:Int) < 100 by decide); omega
  · exact Int.tmod_lt_of_pos n (by decide)
  · exact (Int.mul_tdiv_add_tmod n 100).symm
def firesR (n p : Int) : Bool := decide (n % 100 < p)
end C16
end Go.Proofs.Ytmmmaldpalhjeaa
namespace Go.Peri
open Go.RowKit
theorem ReqV.below {w w' : World} {B : Nat} {m h p b : ByteArray} {l : List Hd} {a : Option Addr} {cap : Nat} (x : ReqV w B m h p b l a cap) (hb : Below B w w') : ReqV w' B m h p b l a cap := ⟨x.rows.below hb (fun _ h => h), x.len, x.wf, x.m, x.h, x.p, x.b⟩
end Go.Peri
namespace Go.Proofs.Ytmmmaldpalhjeaa
open Go.RowKit Go.Peri
namespace C16
/-- The place of the first rule that hits. -/
def ix (m h p : ByteArray) (hs : List Hd) (l : List Rl) : Nat := l.findIdx (fun r => C11.allR m h p hs r.preds)
def lookR (m h p : ByteArray) (hs : List Hd) (l : List Rl) : Int := if ix m h p hs l < l.length then ix m h p hs l else -1
theorem look_hit {m h p : ByteArray} {hs : List Hd} {l : List Rl} {k : Nat} (hk : k < l.length) (h1 : C11.allR m h p hs l[k].preds = true) (h2 : ∀ j (_ : j < k) (hj : j < l.length), C11.allR m h p hs l[j].preds = false) : lookR m h p hs l = k := by
  have : ix m h p hs l = k := by
    unfold ix
    rw [List.findIdx_eq hk]
    exact ⟨h1, fun j hj => h2 j hj (by omega)⟩
  unfold lookR
  rw [this, if_pos hk]
theorem look_none {m h p : ByteArray} {hs : List Hd} {l : List Rl} (h2 : ∀ j (hj : j < l.length), C11.allR m h p hs l[j].preds = false) : lookR m h p hs l = -1 := by
  unfold lookR
  rw [if_neg]
  intro hz
  have h3 := List.findIdx_getElem (p := fun r : Rl => C11.allR m h p hs r.preds) (w := hz)
  have h4 := h2 _ hz
  unfold ix at h4
  rw [h4] at h3
  exact absurd h3 (by simp)
theorem look_lt {m h p : ByteArray} {hs : List Hd} {l : List Rl} : -1 ≤ lookR m h p hs l ∧ lookR m h p hs l < l.length := by
  unfold lookR
  split <;> omega
set_option maxRecDepth 100000 in
set_option maxHeartbeats 1000000 in
theorem hits_any {B : Nat} (r : Rl) (m h p b : ByteArray) (hs : List Hd) (a0 : Option Addr) (cap0 : Nat) (q : Bool) (W : World) (hr : r.Wf W B) (hq : ReqV W B m h p b hs a0 cap0) (hB : B ≤ W.heap.size) (hn : hs.length ≤ 1000000) (hl : r.preds.length ≤ 1000000000) (hh : C11.allR m h p hs r.preds = q) :
    Calls Try.prog 49 #[.agg #[.int .i64 r.rank, .slice r.pa r.preds.length r.pcap, .string r.target, .int .i64 r.ap, .int .i64 r.as_, .int .i64 r.dp, .int .i64 r.dt, .int .i64 r.mp, .string r.mirror, .int .i64 r.sample], .agg #[.string m, .string h, .string p, .slice a0 hs.length cap0, .string b]] W fun e w' => e = .returned (.bool q) ∧ Below W.heap.size W w' := by
  have HA := hid (fun w' (hw : Below W.heap.size W w') => C11.all_any (.slice r.pa r.preds.length r.pcap) r.preds m h p b hs a0 cap0 q w' (hr.rows.below (hw.mono hB) (fun _ h => h)) (fun b hb => Nat.lt_of_lt_of_le hb (Nat.le_trans hB hw.size)) (hq.rows.below (hw.mono hB) (fun _ h => h)) (fun b hb => Nat.lt_of_lt_of_le hb (Nat.le_trans hB hw.size)) hn hl hh)
  have HB0 : Hid (Below W.heap.size W ((W.alloc (.cells #[.int .i64 r.rank, .slice r.pa r.preds.length r.pcap, .string r.target, .int .i64 r.ap, .int .i64 r.as_, .int .i64 r.dp, .int .i64 r.dt, .int .i64 r.mp, .string r.mirror, .int .i64 r.sample] 60)).alloc (.cells #[.string m, .string h, .string p, .slice a0 hs.length cap0, .string b] 67))) := by show Below _ _ _; go_grown
  clear hr hq hh
  go_enter Try.func49, Try.ntmps49
  go_wp2_with fail
  refine (HA.out _ HB0.out).mono ?_
  rintro e w1 ⟨rfl, hb1⟩
  have HB1 := hid (HB0.out.trans (hb1.mono HB0.out.size))
  clear hb1
  go_wp2_with fail
  go_ret
  exact ⟨rfl, HB1.out⟩
set_option maxRecDepth 100000 in
set_option maxHeartbeats 1000000 in
theorem rhits_any {B : Nat} (r : Rl) (m h p b : ByteArray) (hs : List Hd) (a0 : Option Addr) (cap0 : Nat) (q : Bool) (W : World) (hr : r.Wf W B) (hq : ReqV W B m h p b hs a0 cap0) (hB : B ≤ W.heap.size) (hn : hs.length ≤ 1000000) (hl : r.preds.length ≤ 1000000000) (hh : C11.allR m h p hs r.preds = q) :
    Calls Try.prog 50 #[.agg #[.int .i64 r.rank, .slice r.pa r.preds.length r.pcap, .string r.target, .int .i64 r.ap, .int .i64 r.as_, .int .i64 r.dp, .int .i64 r.dt, .int .i64 r.mp, .string r.mirror, .int .i64 r.sample], .agg #[.string m, .string h, .string p, .slice a0 hs.length cap0, .string b]] W fun e w' => e = .returned (.bool q) ∧ Below W.heap.size W w' := by
  have HA := hid (fun w' (hw : Below W.heap.size W w') => C11.rall_any (.slice r.pa r.preds.length r.pcap) r.preds m h p b hs a0 cap0 q w' (hr.rows.below (hw.mono hB) (fun _ h => h)) (fun b hb => Nat.lt_of_lt_of_le hb (Nat.le_trans hB hw.size)) (hq.rows.below (hw.mono hB) (fun _ h => h)) (fun b hb => Nat.lt_of_lt_of_le hb (Nat.le_trans hB hw.size)) hn hl hh)
  have HB0 : Hid (Below W.heap.size W ((W.alloc (.cells #[.int .i64 r.rank, .slice r.pa r.preds.length r.pcap, .string r.target, .int .i64 r.ap, .int .i64 r.as_, .int .i64 r.dp, .int .i64 r.dt, .int .i64 r.mp, .string r.mirror, .int .i64 r.sample] 60)).alloc (.cells #[.string m, .string h, .string p, .slice a0 hs.length cap0, .string b] 67))) := by show Below _ _ _; go_grown
  clear hr hq hh
  go_enter Try.func50, Try.ntmps50
  go_wp2_with fail
  refine (HA.out _ HB0.out).mono ?_
  rintro e w1 ⟨rfl, hb1⟩
  have HB1 := hid (HB0.out.trans (hb1.mono HB0.out.size))
  clear hb1
  go_wp2_with fail
  go_ret
  exact ⟨rfl, HB1.out⟩
set_option maxRecDepth 100000 in
set_option maxHeartbeats 1000000 in
theorem lit_any {B : Nat} (r : Rl) (m h p b : ByteArray) (hs : List Hd) (a0 : Option Addr) (cap0 : Nat) (q : Bool) (X : Nat) (W : World) (hr : r.Wf W B) (hq : ReqV W B m h p b hs a0 cap0) (hB : B ≤ W.heap.size) (hn : hs.length ≤ 1000000) (hl : r.preds.length ≤ 1000000000) (hh : C11.allR m h p hs r.preds = q) (hx : Blk W X #[.string m, .string h, .string p, .slice a0 hs.length cap0, .string b] 67) :
    Calls Try.prog 139 #[.agg #[.int .i64 r.rank, .slice r.pa r.preds.length r.pcap, .string r.target, .int .i64 r.ap, .int .i64 r.as_, .int .i64 r.dp, .int .i64 r.dt, .int .i64 r.mp, .string r.mirror, .int .i64 r.sample], .pointer (some ⟨X, 0, none⟩)] W fun e w' => e = .returned (.bool q) ∧ Below W.heap.size W w' := by
  have HA := hid (fun w' (hw : Below W.heap.size W w') => hits_any r m h p b hs a0 cap0 q w' (hr.below (hw.mono hB)) (hq.below (hw.mono hB)) (Nat.le_trans hB hw.size) hn hl hh)
  have HB0 : Hid (Below W.heap.size W (W.alloc (.cells #[.int .i64 r.rank, .slice r.pa r.preds.length r.pcap, .string r.target, .int .i64 r.ap, .int .i64 r.as_, .int .i64 r.dp, .int .i64 r.dt, .int .i64 r.mp, .string r.mirror, .int .i64 r.sample] 60))) := by show Below _ _ _; go_grown
  have y0 : W.cell? ⟨X, 0, none⟩ = some (.string m) := hx.cell 0
  have y1 : W.cell? ⟨X, 1, none⟩ = some (.string h) := hx.cell 1
  have y2 : W.cell? ⟨X, 2, none⟩ = some (.string p) := hx.cell 2
  have y3 : W.cell? ⟨X, 3, none⟩ = some (.slice a0 hs.length cap0) := hx.cell 3
  have y4 : W.cell? ⟨X, 4, none⟩ = some (.string b) := hx.cell 4
  have hlt := hx.lt
  clear hr hq hh hx
  go_enter Try.func139, Try.ntmps139
  go_wp2_with fail
  refine (HA.out _ HB0.out).mono ?_
  rintro e w1 ⟨rfl, hb1⟩
  have HB1 := hid (HB0.out.trans (hb1.mono HB0.out.size))
  clear hb1
  go_wp2_with fail
  go_ret
  exact ⟨rfl, HB1.out⟩
set_option maxRecDepth 100000 in
set_option maxHeartbeats 1000000 in
theorem index_any {B : Nat} (v : Value) (l : List Rl) (m h p b : ByteArray) (hs : List Hd) (a0 : Option Addr) (cap0 : Nat) (X : Nat) (W : World) (hl : RowsOf (· < B) Rl.enc 10 W v l) (hw : ∀ r ∈ l, r.Wf W B) (hq : ReqV W B m h p b hs a0 cap0) (hB : B ≤ W.heap.size) (hn : hs.length ≤ 1000000) (hll : l.length ≤ 10000000000000) (hps : ∀ r ∈ l, r.preds.length ≤ 1000000000) (hx : Blk W X #[.string m, .string h, .string p, .slice a0 hs.length cap0, .string b] 67) :
    Calls Try.prog 138 #[v, .func (.func 139) #[] #[.pointer (some ⟨X, 0, none⟩)]] W fun e w' => e = .returned (.int .i64 (lookR m h p hs l)) ∧ Below W.heap.size W w' := by
  obtain ⟨a, cap, rfl, hlc, hcm, _, hcell⟩ := hl
  have HC := hid hcell
  have HLT := hid (fun (r : Rl) (q : Bool) (w' : World) (hr : r ∈ l) (hh : C11.allR m h p hs r.preds = q) (hb : Below W.heap.size W w') => lit_any r m h p b hs a0 cap0 q X w' ((hw r hr).below (hb.mono hB)) (hq.below (hb.mono hB)) (Nat.le_trans hB hb.size) hn (hps r hr) hh (hx.later hb))
  clear hcell hw hq hps hx
  go_enter Try.func138, Try.ntmps138
  go_wp2_with fail
  go_loopw [8] (fun i wr => ∃ k : Nat, k ≤ l.length ∧ i = .int .i64 k ∧ Below W.heap.size W wr ∧ ∀ j (_ : j < k) (hj : j < l.length), C11.allR m h p hs l[j].preds = false) (fun i _ => l.length - (intOf i).toNat)
  case atStart => exact ⟨0, Nat.zero_le _, rfl, Below.refl _ _, fun j hj => absurd hj (Nat.not_lt_zero _)⟩
  case round =>
    obtain ⟨k, hk, rfl, hb, hno⟩ := hrel
    have HB := hid hb
    have HN := hid hno
    clear hb hno
    by_cases hlt : k < l.length
    · obtain ⟨bb, off, rfl, hpb, hc⟩ := HC.out.resolve_left (by intro e; rw [e] at hlt; simp at hlt)
      have hbl0 : bb < W.heap.size := Nat.lt_of_lt_of_le hpb hB
      have hbl : bb < wr.heap.size := Nat.lt_of_lt_of_le hbl0 HB.out.size
      obtain ⟨c0, c1, c2, c3, c4, c5, c6, c7, c8, c9⟩ := Rl.cells (fun j u hu => (HB.out.cell (p := ⟨bb, off + k * 10 + j, none⟩) hbl0).trans (hc k hlt j u hu))
      obtain ⟨bq, hbq⟩ : ∃ bq, C11.allR m h p hs l[k].preds = bq := ⟨_, rfl⟩
      have HLit := hid (fun w' (hb : Below W.heap.size W w') => HLT.out l[k] bq w' (List.getElem_mem hlt) hbq hb)
      have HNext : Hid (bq = false → ∀ j (_ : j < k + 1) (hj : j < l.length), C11.allR m h p hs l[j].preds = false) := by
        intro e j hj hjl
        by_cases e2 : j = k
        · subst e2; rw [e] at hbq; exact hbq
        · exact HN.out j (by omega) hjl
      have HHit : Hid (bq = true → lookR m h p hs l = k) := fun e => by
        rw [e] at hbq
        exact look_hit hlt hbq HN.out
      clear hc hbq
      generalize l[k] = y at c0 c1 c2 c3 c4 c5 c6 c7 c8 c9 HLit
      cases bq
      · go_wp2_with fail
        refine (HLit.out _ HB.out).mono ?_
        rintro e w1 ⟨rfl, hb1⟩
        have HB1 := hid (HB.out.trans (hb1.mono HB.out.size))
        clear hb1
        go_wp2_with fail
        go_roundw
        case rel => exact ⟨k + 1, by omega, by go_num, HB1.out, HNext.out (by simp)⟩
        case measure => simp [intOf]; omega
      · go_wp2_with fail
        refine (HLit.out _ HB.out).mono ?_
        rintro e w1 ⟨rfl, hb1⟩
        have HB1 := hid (HB.out.trans (hb1.mono HB.out.size))
        clear hb1
        go_wp2_with fail
        go_ret
        exact ⟨by rw [HHit.out (by simp)]; rfl, HB1.out⟩
    · obtain rfl : k = l.length := by omega
      have hd : Hid (lookR m h p hs l = -1) := hid (look_none (fun j hj => HN.out j hj hj))
      go_wp2_with fail
      go_ret
      exact ⟨by rw [hd.out]; rfl, HB.out⟩
set_option maxRecDepth 100000 in
set_option maxHeartbeats 1000000 in
theorem look_any {B : Nat} (n : Int) (l : List Rl) (a : Option Addr) (cap : Nat) (f : ByteArray) (m h p b : ByteArray) (hs : List Hd) (a0 : Option Addr) (cap0 : Nat) (r : Int) (W : World) (ht : TabV W B l a cap f) (hq : ReqV W B m h p b hs a0 cap0) (hB : B ≤ W.heap.size) (hn : hs.length ≤ 1000000) (hps : ∀ r ∈ l, r.preds.length ≤ 1000000000) (hr : lookR m h p hs l = r) :
    Calls Try.prog 76 #[.agg #[.int .i64 n, .slice a l.length cap, .string f], .agg #[.string m, .string h, .string p, .slice a0 hs.length cap0, .string b]] W fun e w' => e = .returned (.int .i64 r) ∧ Below W.heap.size W w' := by
  have HB0 : Hid (Below W.heap.size W ((W.alloc (.cells #[.int .i64 n, .slice a l.length cap, .string f] 46)).alloc (.cells #[.string m, .string h, .string p, .slice a0 hs.length cap0, .string b] 67))) := by show Below _ _ _; go_grown
  have hB0 := HB0.out
  have HI := hid (index_any (.slice a l.length cap) l m h p b hs a0 cap0 (W.heap.size + 1) ((W.alloc (.cells #[.int .i64 n, .slice a l.length cap, .string f] 46)).alloc (.cells #[.string m, .string h, .string p, .slice a0 hs.length cap0, .string b] 67)) (ht.rows.below (hB0.mono hB) (fun _ h => h)) (fun r hr => (ht.wf r hr).below (hB0.mono hB)) (hq.below (hB0.mono hB)) (Nat.le_trans hB hB0.size) hn (by have := ht.len; omega) hps (Blk.new' _ _ _ (by simp)))
  rw [hr] at HI
  clear ht hq hps hr hB0
  go_enter Try.func76, Try.ntmps76
  go_wp2_with fail
  refine HI.out.mono ?_
  rintro e w1 ⟨rfl, hb1⟩
  have HB1 := hid (HB0.out.trans (hb1.mono HB0.out.size))
  clear hb1
  go_wp2_with fail
  go_ret
  exact ⟨rfl, HB1.out⟩
set_option maxRecDepth 100000 in
set_option maxHeartbeats 1000000 in
theorem rlook_any {B : Nat} (n : Int) (l : List Rl) (a : Option Addr) (cap : Nat) (f : ByteArray) (m h p b : ByteArray) (hs : List Hd) (a0 : Option Addr) (cap0 : Nat) (r : Int) (W : World) (ht : TabV W B l a cap f) (hq : ReqV W B m h p b hs a0 cap0) (hB : B ≤ W.heap.size) (hn : hs.length ≤ 1000000) (hps : ∀ r ∈ l, r.preds.length ≤ 1000000000) (hr : lookR m h p hs l = r) :
    Calls Try.prog 77 #[.agg #[.int .i64 n, .slice a l.length cap, .string f], .agg #[.string m, .string h, .string p, .slice a0 hs.length cap0, .string b]] W fun e w' => e = .returned (.int .i64 r) ∧ Below W.heap.size W w' := by
  have HB0 : Hid (Below W.heap.size W ((W.alloc (.cells #[.int .i64 n, .slice a l.length cap, .string f] 46)).alloc (.cells #[.string m, .string h, .string p, .slice a0 hs.length cap0, .string b] 67))) := by show Below _ _ _; go_grown
  have HLT := hid (fun (r : Rl) (q : Bool) (w' : World) (hr : r ∈ l) (hh : C11.allR m h p hs r.preds = q) (hb : Below W.heap.size W w') => rhits_any r m h p b hs a0 cap0 q w' ((ht.wf r hr).below (hb.mono hB)) (hq.below (hb.mono hB)) (Nat.le_trans hB hb.size) hn (hps r hr) hh)
  have HZ := hid ((Blk.new W #[.int .i64 n, .slice a l.length cap, .string f] 46).alloc (.cells #[.string m, .string h, .string p, .slice a0 hs.length cap0, .string b] 67))
  have HY := hid (Blk.new' (W.alloc (.cells #[.int .i64 n, .slice a l.length cap, .string f] 46)) #[.string m, .string h, .string p, .slice a0 hs.length cap0, .string b] 67 (n := W.heap.size + 1) (by simp))
  obtain ⟨⟨a9, cap9, e9, hlc, hcm, _, hcell⟩, hlen, _, _⟩ := ht
  cases e9
  have HC := hid hcell
  have HR := hid hr
  clear hcell hq hps hr
  go_enter Try.func77, Try.ntmps77
  go_wp2_with fail
  go_loopw [5] (fun i wr => ∃ k : Nat, k ≤ l.length ∧ i = .int .i64 k ∧ Below ((W.alloc (.cells #[.int .i64 n, .slice a l.length cap, .string f] 46)).alloc (.cells #[.string m, .string h, .string p, .slice a0 hs.length cap0, .string b] 67)).heap.size ((W.alloc (.cells #[.int .i64 n, .slice a l.length cap, .string f] 46)).alloc (.cells #[.string m, .string h, .string p, .slice a0 hs.length cap0, .string b] 67)) wr ∧ ∀ j (_ : j < k) (hj : j < l.length), C11.allR m h p hs l[j].preds = false) (fun i _ => l.length - (intOf i).toNat)
  case atStart => exact ⟨0, Nat.zero_le _, rfl, Below.refl _ _, fun j hj => absurd hj (Nat.not_lt_zero _)⟩
  case round =>
    obtain ⟨k, hk, rfl, hb, hno⟩ := hrel
    have HB := hid hb
    have HN := hid hno
    have HW := hid (HB0.out.trans (hb.mono HB0.out.size))
    have hz := HZ.out.later hb
    have hy := HY.out.later hb
    have z1 : wr.cell? ⟨W.heap.size, 1, none⟩ = some (.slice a l.length cap) := hz.cell 1
    have y0 : wr.cell? ⟨W.heap.size + 1, 0, none⟩ = some (.string m) := hy.cell 0
    have y1 : wr.cell? ⟨W.heap.size + 1, 1, none⟩ = some (.string h) := hy.cell 1
    have y2 : wr.cell? ⟨W.heap.size + 1, 2, none⟩ = some (.string p) := hy.cell 2
    have y3 : wr.cell? ⟨W.heap.size + 1, 3, none⟩ = some (.slice a0 hs.length cap0) := hy.cell 3
    have y4 : wr.cell? ⟨W.heap.size + 1, 4, none⟩ = some (.string b) := hy.cell 4
    have hlz := hz.lt
    have hly := hy.lt
    clear hz hy
    clear hb hno
    by_cases hlt : k < l.length
    · obtain ⟨bb, off, rfl, hpb, hc⟩ := HC.out.resolve_left (by intro e; rw [e] at hlt; simp at hlt)
      have hbl0 : bb < W.heap.size := Nat.lt_of_lt_of_le hpb hB
      have hbl : bb < wr.heap.size := Nat.lt_of_lt_of_le hbl0 HW.out.size
      obtain ⟨c0, c1, c2, c3, c4, c5, c6, c7, c8, c9⟩ := Rl.cells (fun j u hu => (HW.out.cell (p := ⟨bb, off + k * 10 + j, none⟩) hbl0).trans (hc k hlt j u hu))
      obtain ⟨bq, hbq⟩ : ∃ bq, C11.allR m h p hs l[k].preds = bq := ⟨_, rfl⟩
      have HLit : Hid (∀ x : BW wr, Calls Try.prog 50 #[.agg #[.int .i64 l[k].rank, .slice l[k].pa l[k].preds.length l[k].pcap, .string l[k].target, .int .i64 l[k].ap, .int .i64 l[k].as_, .int .i64 l[k].dp, .int .i64 l[k].dt, .int .i64 l[k].mp, .string l[k].mirror, .int .i64 l[k].sample], .agg #[.string m, .string h, .string p, .slice a0 hs.length cap0, .string b]] x.val fun e w' => e = .returned (.bool bq) ∧ Below x.val.heap.size x.val w') := hid (fun x => HLT.out l[k] bq x.val (List.getElem_mem hlt) hbq (HW.out.trans (x.prop.mono HW.out.size)))
      have HNext : Hid (bq = false → ∀ j (_ : j < k + 1) (hj : j < l.length), C11.allR m h p hs l[j].preds = false) := by
        intro e j hj hjl
        by_cases e2 : j = k
        · subst e2; rw [e] at hbq; exact hbq
        · exact HN.out j (by omega) hjl
      have HHit : Hid (bq = true → lookR m h p hs l = k) := fun e => by
        rw [e] at hbq
        exact look_hit hlt hbq HN.out
      clear hc hbq
      generalize l[k] = y at c0 c1 c2 c3 c4 c5 c6 c7 c8 c9 HLit
      cases bq
      · go_wp2_with fail
        refine wp_region_bw (by kernel_rfl) (by kernel_rfl) ?_
        repeat (go_big_quiet_step ((go_at_call 50; exact bw_call (HLit.out _))))
        refine wpQuiet_nil ?_
        rintro w2 ⟨⟨_, hbw⟩, rfl⟩
        have HB1 := hid (HB.out.trans (hbw.mono HB.out.size))
        clear hbw
        go_wp2_with fail
        go_roundw
        case rel => exact ⟨k + 1, by omega, by go_num, HB1.out, HNext.out (by simp)⟩
        case measure => simp [intOf]; omega
      · go_wp2_with fail
        refine wp_region_bw (by kernel_rfl) (by kernel_rfl) ?_
        repeat (go_big_quiet_step ((go_at_call 50; exact bw_call (HLit.out _))))
        refine wpQuiet_nil ?_
        rintro w2 ⟨⟨_, hbw⟩, rfl⟩
        have HB1 := hid (HW.out.trans (hbw.mono HW.out.size))
        clear hbw
        go_wp2_with fail
        go_ret
        exact ⟨by rw [← HR.out, HHit.out (by simp)]; rfl, HB1.out⟩
    · obtain rfl : k = l.length := by omega
      have hd : Hid (lookR m h p hs l = -1) := hid (look_none (fun j hj => HN.out j hj hj))
      go_wp2_with fail
      go_ret
      exact ⟨by rw [← HR.out, hd.out]; rfl, HW.out⟩
end C16
end Go.Proofs.Ytmmmaldpalhjeaa
