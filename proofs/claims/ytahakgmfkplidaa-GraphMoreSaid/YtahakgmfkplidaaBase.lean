/- General lemmas for law rows: what arguments of plain types read as, and the step from a walk to a row. -/
import Derived.WalkKit
import Derived.WalkSpells
import Derived.WalkLawsBesides
import Derived.Handy
import Derived.BigQuiet
import Derived.ProofKit
import Derived.OpenShut
import Derived.ShutString
import Derived.ChangeOld
import Derived.Below
import Derived.SizedLaws
import Derived.ChangeArms
import Derived.Deep.Slices
namespace Go.Peri
open Go.RowKit Go.ChangeShapes Go.WideShapes Go.ChangeAt

theorem hid {p : Prop} (h : p) : Hid p := h
theorem ret_int {k : IntKind} {a b : Int} (h : a = b) : Ending.returned (.int k a) = .returned (.int k b) := by rw [h]
theorem ret_bool {a b : Bool} (h : a = b) : Ending.returned (.bool a) = .returned (.bool b) := by rw [h]

/-- Plain types. -/
inductive Ty where
  | int (k : IntKind)
  | bool
  | str
  | slice (bytes : Nat) (e : Ty)
  | nil
  | cons (a b : Ty)

def Ty.size : Ty → Nat
  | .nil => 0
  | .cons a b => a.size + b.size
  | _ => 1

def Ty.agg : Ty → Bool
  | .nil => true
  | .cons _ _ => true
  | _ => false

def Ty.fit (P : Program) : Ty → Sum TypeId (List (Nat × TypeId) × Nat) → Bool
  | .int k, .inl t => match P.underlying t with | some (.int k') => decide (k = k') | _ => false
  | .bool, .inl t => match P.underlying t with | some .bool => true | _ => false
  | .str, .inl t => match P.underlying t with | some .string => true | _ => false
  | .slice by_ e, .inl t => match P.underlying t with | some (.slice u) => e.fit P (.inl u) && decide (P.cellsOf u = e.size) && decide (P.bytesOf u = by_) && decide (1 ≤ e.size) | _ => false
  | .cons a b, .inl t => match P.underlying t with
    | some (.struct fs) => decide (P.cellsOf t = a.size + b.size) && (match fs.toList with | f :: l => decide (f.offset = 0) && decide (P.cellsOf f.type = a.size) && a.fit P (.inl f.type) && b.fit P (.inr (l.map (fun f => (f.offset, f.type)), a.size)) | [] => false)
    | some (.array n u) => decide (P.cellsOf t = a.size + b.size) && (match n with | n + 1 => decide (P.cellsOf u = a.size) && a.fit P (.inl u) && b.fit P (.inr ((List.range n).map (fun i => ((i + 1) * P.cellsOf u, u)), a.size)) | 0 => false)
    | _ => false
  | .nil, .inr (l, _) => l.isEmpty
  | .cons a b, .inr (l, off) => match l with | (o, u) :: l => decide (o = off) && decide (P.cellsOf u = a.size) && a.fit P (.inl u) && b.fit P (.inr (l, off + a.size)) | [] => false
  | _, _ => false

/-- What cells of a plain type hold: blocks of what is led to are below B. -/
def Rd (w : World) (B : Nat) : Ty → List Value → Prop
  | .int k, cs => ∃ n, cs = [.int k n] ∧ (Lit.int k n).wf = true
  | .bool, cs => ∃ b, cs = [.bool b]
  | .str, cs => ∃ s : ByteArray, cs = [.string s] ∧ s.size ≤ maxLen ∧ s.size ≤ 140737488351232
  | .slice by_ e, cs => ∃ a len cap, cs = [.slice a len cap] ∧ len ≤ cap ∧ cap ≤ maxLen ∧ cap * by_ ≤ 140737488351232 ∧ (a = none → cap = 0) ∧
      ∃ xs : List (List Value), xs.length = len ∧ (∀ x ∈ xs, x.length = e.size ∧ Rd w B e x) ∧
        (len = 0 ∨ ∃ b off, a = some ⟨b, off, none⟩ ∧ b < B ∧ ∀ i j, i < len → j < e.size → w.cell? ⟨b, off + (i * e.size + j), none⟩ = some ((xs.getD i []).getD j undef))
  | .nil, cs => cs = []
  | .cons a b, cs => ∃ c1 c2, cs = c1 ++ c2 ∧ c1.length = a.size ∧ Rd w B a c1 ∧ Rd w B b c2

theorem Rd.below {w w' : World} {B : Nat} (hb : Below B w w') : ∀ (ty : Ty) (cs : List Value), Rd w B ty cs → Rd w' B ty cs
  | .int _, _, h => h
  | .bool, _, h => h
  | .str, _, h => h
  | .nil, _, h => h
  | .cons a b, _, ⟨c1, c2, h1, h2, h3, h4⟩ => ⟨c1, c2, h1, h2, Rd.below hb a _ h3, Rd.below hb b _ h4⟩
  | .slice _ e, _, ⟨a, len, cap, h1, h2, h3, h4, h5, xs, h6, h7, h8⟩ =>
    ⟨a, len, cap, h1, h2, h3, h4, h5, xs, h6, fun x hx => ⟨(h7 x hx).1, Rd.below hb e x (h7 x hx).2⟩,
      h8.imp id fun ⟨b, off, g1, g2, g3⟩ => ⟨b, off, g1, g2, fun i j hi hj => (hb.cell (p := ⟨b, off + (i * e.size + j), none⟩) g2).trans (g3 i j hi hj)⟩⟩

section
variable {H : Type} {enc : TypeId × Value → H} {P : Program} {w : World}

theorem weights_mem_all {e : TypeId} : ∀ {ds : List (DataW H)} {i : Nat} {d : DataW H}, ds[i]? = some d → ∀ x ∈ d.weights P e, x ∈ DataW.weightsAll P e ds
  | [], i, d, h, _, _ => by simp at h
  | d' :: ds, 0, d, h, x, hx => by simp at h; subst h; simp [DataW.weightsAll, hx]
  | d' :: ds, i + 1, d, h, x, hx => by simp at h; simp [DataW.weightsAll, weights_mem_all h x hx]

/-- The weights of a datum are within the reach. -/
def Light (P : Program) (t : TypeId) (d : DataW H) : Prop := ∀ x ∈ d.weights P t, x ≤ reachBytes

theorem rd_of_trod : ∀ (ty : Ty) (y : Sum TypeId (List (Nat × TypeId) × Nat)), ty.fit P y = true →
    (∀ t fuel cs d ps, y = .inl t → DataW.trod enc P w 0 (fun _ => true) true fuel t cs = some (d, ps) → Light P t d → cs.length = ty.size ∧ Rd w w.heap.size ty cs) ∧
    (∀ (l : List (Nat × TypeId)) (off fuel : Nat) (cs : List Value), y = .inr (l, off) → (∀ (i o u : Nat), l[i]? = some (o, u) → ∃ d ps, DataW.trod enc P w 0 (fun _ => true) true fuel u ((cs.drop o).take (P.cellsOf u)) = some (d, ps) ∧ Light P u d) → cs.length = off + ty.size → Rd w w.heap.size ty (cs.drop off)) := by
  intro ty
  induction ty with
  | int k =>
    intro y hf
    match y, hf with
    | .inl t, hf =>
      simp only [Ty.fit] at hf
      split at hf
      · rename_i k' hu
        have hk := of_decide_eq_true hf
        subst hk
        refine ⟨fun t' fuel cs d ps e h _ => ?_, fun l off fuel cs e => (by cases e)⟩
        cases e
        obtain ⟨n, rfl, _, hw⟩ := DataW.trod_int hu h
        exact ⟨rfl, n, rfl, hw⟩
      · cases hf
    | .inr _, hf => simp [Ty.fit] at hf
  | bool =>
    intro y hf
    match y, hf with
    | .inl t, hf =>
      simp only [Ty.fit] at hf
      split at hf
      · rename_i hu
        refine ⟨fun t' fuel cs d ps e h _ => ?_, fun l off fuel cs e => (by cases e)⟩
        cases e
        obtain ⟨b, rfl, _⟩ := DataW.trod_bool hu h
        exact ⟨rfl, b, rfl⟩
      · cases hf
    | .inr _, hf => simp [Ty.fit] at hf
  | str =>
    intro y hf
    match y, hf with
    | .inl t, hf =>
      simp only [Ty.fit] at hf
      split at hf
      · rename_i hu
        refine ⟨fun t' fuel cs d ps e h hl => ?_, fun l off fuel cs e => (by cases e)⟩
        cases e
        obtain ⟨s, rfl, hx, hw⟩ := DataW.trod_string hu h
        obtain ⟨rfl, -⟩ := Prod.mk.inj hx
        have := hl s.size (by simp only [DataW.weights, List.mem_singleton]; rw [Array.length_toList]; rfl)
        exact ⟨rfl, s, rfl, hw, this⟩
      · cases hf
    | .inr _, hf => simp [Ty.fit] at hf
  | slice by_ e ih =>
    intro y hf
    match y, hf with
    | .inl t, hf =>
      simp only [Ty.fit] at hf
      split at hf
      · rename_i u hu
        simp only [Bool.and_eq_true, decide_eq_true_eq] at hf
        obtain ⟨⟨⟨hf1, hf2⟩, hf3⟩, hf4⟩ := hf
        have ih' := (ih (.inl u) hf1).1
        refine ⟨fun t' fuel cs d ps e h hl => ?_, fun l off fuel cs e => (by cases e)⟩
        cases e
        rcases Deep.open_slice hu h with ⟨rfl, _⟩ | ⟨a, len, cap, m, n, D, Pl, rfl, _, hlc, hcm, hm, hx, hel⟩
        · exact ⟨rfl, none, 0, 0, rfl, Nat.le_refl _, Nat.zero_le _, by omega, fun _ => rfl, [], rfl, by simp, .inl rfl⟩
        · simp only [if_true] at hm
          obtain rfl : cap = m := hm.symm
          obtain ⟨rfl, -⟩ := Prod.mk.inj hx
          have hwt : cap * by_ ≤ 140737488351232 := by
            have := hl ((len + (cap - len)) * by_) (by simp [DataW.weights, hu, hf3])
            rw [show len + (cap - len) = cap by omega] at this
            exact this
          have hin : ∀ i, i < len → ∃ cs', cs'.length = e.size ∧ (∀ j, j < e.size → w.cell? (a.add (i * e.size + j)) = cs'[j]?) ∧ Rd w w.heap.size e cs' := by
            intro i hi
            obtain ⟨cs', h1, h2⟩ := hel i (by omega)
            obtain ⟨_, h3, h4⟩ := World.cells?_some h1
            rw [hf2] at h3 h4
            have hlt : Light P u (D i) := by
              intro x hx
              refine hl x ?_
              simp only [DataW.weights, hu, List.mem_cons, List.mem_append]
              exact .inr (.inl (weights_mem_all (i := i) (by simp [hi]) x hx))
            exact ⟨cs', h3, fun j hj => by rw [← h4 j hj, Deep.add_add], (ih' u n cs' _ _ rfl h2 hlt).2⟩
          obtain ⟨F, hF⟩ := Deep.choose_lt hin
          refine ⟨rfl, some a, len, cap, rfl, hlc, hcm, hwt, by simp, (List.range len).map F, by simp, ?_, ?_⟩
          · intro x hx
            obtain ⟨i, hi, rfl⟩ := List.mem_map.1 hx
            have := hF i (List.mem_range.1 hi)
            exact ⟨this.1, this.2.2⟩
          · by_cases h0 : len = 0
            · exact .inl h0
            · right
              obtain ⟨b, off, spot⟩ := a
              have c0 := (hF 0 (by omega)).2.1 0 (by omega)
              have hl0 := (hF 0 (by omega)).1
              rw [List.getElem?_eq_getElem (by omega)] at c0
              have hs : spot = none := by simpa [Addr.add] using World.cell?_spot c0
              subst hs
              refine ⟨b, off, rfl, ?_, ?_⟩
              · have : (⟨b, off, none⟩ : Addr).block < w.heap.size := by
                  have h9 := (World.cells?_block (w := w) (base := 0) (a := ⟨b, off, none⟩) (n := 1) (cs := [(F 0)[0]'(by omega)]) (by
                    refine cells?_one (Nat.zero_le _) ?_
                    simpa [Addr.add] using c0) (by omega))
                  exact h9
                exact this
              · intro i j hi hj
                have := (hF i hi).2.1 j hj
                have hlen := (hF i hi).1
                have e1 : ((List.range len).map F).getD i [] = F i := by simp [List.getD, hi]
                rw [e1]
                have e2 : (⟨b, off, none⟩ : Addr).add (i * e.size + j) = ⟨b, off + (i * e.size + j), none⟩ := by
                  unfold Addr.add
                  split
                  · rename_i hz; rw [hz]; rfl
                  · rfl
                rw [e2] at this
                rw [this, List.getD, List.getElem?_eq_getElem (by omega)]
                rfl
      · cases hf
    | .inr _, hf => simp [Ty.fit] at hf
  | nil =>
    intro y hf
    match y, hf with
    | .inl t, hf => simp [Ty.fit] at hf
    | .inr (l, off), hf =>
      refine ⟨fun t' fuel cs d ps e => (by cases e), fun l off fuel cs e _ hlen => ?_⟩
      simp only [Rd]
      simp [Ty.size] at hlen
      simp [hlen]
  | cons a b iha ihb =>
    intro y hf
    match y, hf with
    | .inl t, hf =>
      refine ⟨fun t' fuel cs d ps e h hl => ?_, fun l off fuel cs e => (by cases e)⟩
      cases e
      simp only [Ty.fit] at hf
      split at hf
      · rename_i fs hu
        simp only [Bool.and_eq_true, decide_eq_true_eq] at hf
        obtain ⟨hsz, hf⟩ := hf
        split at hf
        · rename_i f l hfl
          simp only [Bool.and_eq_true, decide_eq_true_eq] at hf
          obtain ⟨⟨⟨ho, hc⟩, hfa⟩, hfb⟩ := hf
          obtain ⟨xs, n, _, hx, hlen, hxl, hel⟩ := DataW.trod_struct hu h
          obtain ⟨rfl, -⟩ := Prod.mk.inj hx
          have hlt : ∀ (i : Nat) (g : Field), fs[i]? = some g → ∃ d ps, DataW.trod enc P w 0 (fun _ => true) true n g.type ((cs.drop g.offset).take (P.cellsOf g.type)) = some (d, ps) ∧ Light P g.type d := by
            intro i g hg
            have hi : i < fs.size := (Array.getElem?_eq_some_iff.1 hg).1
            have h2 := hel i g hg
            rw [List.getElem?_eq_getElem (by omega)] at h2
            refine ⟨_, _, h2, ?_⟩
            intro x hx
            refine hl x ?_
            simp only [DataW.weights, hu]
            refine DataW.weights_mem_each (j := i) (t := g.type) (d := (xs[i]'(by omega)).1) ?_ ?_ x hx
            · rw [List.getElem?_map, Array.getElem?_toList, hg]; rfl
            · rw [List.getElem?_map, List.getElem?_eq_getElem (by omega)]; rfl
          refine ⟨by rw [hlen, hsz]; rfl, ?_⟩
          have hf0 : fs[0]? = some f := by rw [← Array.getElem?_toList, hfl]; rfl
          obtain ⟨d0, p0, h0, l0⟩ := hlt 0 f hf0
          rw [ho, hc, List.drop_zero] at h0
          obtain ⟨la, ra⟩ := (iha _ hfa).1 _ _ _ _ _ rfl h0 l0
          have rb := (ihb _ hfb).2 _ _ n cs rfl (fun i o u hi => by
            rw [List.getElem?_map] at hi
            obtain ⟨g, hg, e⟩ := Option.map_eq_some_iff.1 hi
            cases e
            exact hlt (i + 1) g (by rw [← Array.getElem?_toList, hfl]; simpa using hg)) (by rw [hlen, hsz])
          exact ⟨cs.take a.size, cs.drop a.size, (List.take_append_drop _ _).symm, la, ra, rb⟩
        · cases hf
      · rename_i n u hu
        simp only [Bool.and_eq_true, decide_eq_true_eq] at hf
        obtain ⟨hsz, hf⟩ := hf
        match n, hu, hf with
        | n + 1, hu, hf =>
          simp only [Bool.and_eq_true, decide_eq_true_eq] at hf
          obtain ⟨⟨hc, hfa⟩, hfb⟩ := hf
          obtain ⟨xs, m, _, hx, hlen, hxl, hel⟩ := DataW.trod_array hu h
          obtain ⟨rfl, -⟩ := Prod.mk.inj hx
          have hlt : ∀ i, i < n + 1 → ∃ d ps, DataW.trod enc P w 0 (fun _ => true) true m u ((cs.drop (i * P.cellsOf u)).take (P.cellsOf u)) = some (d, ps) ∧ Light P u d := by
            intro i hi
            have h2 := hel i hi
            rw [List.getElem?_eq_getElem (by omega)] at h2
            refine ⟨_, _, h2, ?_⟩
            intro x hx
            refine hl x ?_
            simp only [DataW.weights, hu]
            refine weights_mem_all (i := i) (d := (xs[i]'(by omega)).1) ?_ x hx
            rw [List.getElem?_map, List.getElem?_eq_getElem (by omega)]; rfl
          refine ⟨by rw [hlen, hsz]; rfl, ?_⟩
          obtain ⟨d0, p0, h0, l0⟩ := hlt 0 (by omega)
          rw [hc, Nat.zero_mul, List.drop_zero] at h0
          obtain ⟨la, ra⟩ := (iha _ hfa).1 _ _ _ _ _ rfl h0 l0
          have rb := (ihb _ hfb).2 _ _ m cs rfl (fun i o u' hi => by
            rw [List.getElem?_map] at hi
            obtain ⟨g, hg, e⟩ := Option.map_eq_some_iff.1 hi
            cases e
            have hg' : g = i ∧ i < n := by
              have := List.getElem?_eq_some_iff.1 hg
              obtain ⟨h1, h2⟩ := this
              simp at h1 h2
              omega
            rw [hg'.1]
            exact hlt (i + 1) (by omega)) (by rw [hlen, hsz])
          exact ⟨cs.take a.size, cs.drop a.size, (List.take_append_drop _ _).symm, la, ra, rb⟩
        | 0, hu, hf => cases hf
      · cases hf
    | .inr (l, off), hf =>
      refine ⟨fun t' fuel cs d ps e => (by cases e), fun l' off' fuel cs e hel hlen => ?_⟩
      cases e
      simp only [Ty.fit] at hf
      match l, hf, hel with
      | (o, u) :: l, hf, hel =>
        simp only [Bool.and_eq_true, decide_eq_true_eq] at hf
        obtain ⟨⟨⟨ho, hc⟩, hfa⟩, hfb⟩ := hf
        obtain ⟨d0, p0, h0, l0⟩ := hel 0 o u rfl
        rw [ho, hc] at h0
        obtain ⟨la, ra⟩ := (iha _ hfa).1 _ _ _ _ _ rfl h0 l0
        have rb := (ihb _ hfb).2 _ _ fuel cs rfl (fun i o' u' hi => hel (i + 1) o' u' (by simpa using hi)) (by simp [Ty.size] at hlen; omega)
        refine ⟨(cs.drop off).take a.size, (cs.drop off).drop a.size, (List.take_append_drop _ _).symm, la, ra, ?_⟩
        rw [List.drop_drop]
        exact rb
      | [], hf, _ => cases hf

/-- An argument's value. -/
def Arg (w : World) (B : Nat) : Ty → Value → Prop
  | .nil, v => ∃ cs, v = .agg cs ∧ Rd w B .nil cs.toList
  | .cons a b, v => ∃ cs, v = .agg cs ∧ Rd w B (.cons a b) cs.toList
  | ty, v => Rd w B ty [v]

def Args (w : World) (B : Nat) : List Ty → List Value → Prop
  | [], [] => True
  | ty :: tys, v :: vs => Arg w B ty v ∧ Args w B tys vs
  | _, _ => False

theorem args_one {B : Nat} {t0 : Ty} {args : Array Value} (h : Args w B [t0] args.toList) : ∃ v0, args = #[v0] ∧ Arg w B t0 v0 := by
  obtain ⟨l⟩ := args
  match l, h with
  | [v0], h => exact ⟨v0, rfl, h.1⟩
theorem args_two {B : Nat} {t0 t1 : Ty} {args : Array Value} (h : Args w B [t0, t1] args.toList) : ∃ v0 v1, args = #[v0, v1] ∧ Arg w B t0 v0 ∧ Arg w B t1 v1 := by
  obtain ⟨l⟩ := args
  match l, h with
  | [v0, v1], h => exact ⟨v0, v1, rfl, h.1, h.2.1⟩
theorem args_three {B : Nat} {t0 t1 t2 : Ty} {args : Array Value} (h : Args w B [t0, t1, t2] args.toList) : ∃ v0 v1 v2, args = #[v0, v1, v2] ∧ Arg w B t0 v0 ∧ Arg w B t1 v1 ∧ Arg w B t2 v2 := by
  obtain ⟨l⟩ := args
  match l, h with
  | [v0, v1, v2], h => exact ⟨v0, v1, v2, rfl, h.1, h.2.1, h.2.2.1⟩
theorem args_four {B : Nat} {t0 t1 t2 t3 : Ty} {args : Array Value} (h : Args w B [t0, t1, t2, t3] args.toList) : ∃ v0 v1 v2 v3, args = #[v0, v1, v2, v3] ∧ Arg w B t0 v0 ∧ Arg w B t1 v1 ∧ Arg w B t2 v2 ∧ Arg w B t3 v3 := by
  obtain ⟨l⟩ := args
  match l, h with
  | [v0, v1, v2, v3], h => exact ⟨v0, v1, v2, v3, rfl, h.1, h.2.1, h.2.2.1, h.2.2.2.1⟩

theorem arg_of_trod (ty : Ty) {r : Reach} {b : Nat} {t : TypeId} {v : Value} {d : DataW H} {ps : List MemPlace} (hf : ty.fit P (.inl t) = true) (hok : Value.okWide P w r b t v)
    (h : DataW.Trod enc P w 0 (fun _ => true) true t v d ps) (hl : Light P t d) : Arg w w.heap.size ty v := by
  obtain ⟨fuel, h⟩ := h
  have hr := ((rd_of_trod ty (.inl t) hf).1 t fuel _ d ps rfl h hl).2
  cases ty with
  | int k =>
    simp only [Ty.fit] at hf
    split at hf
    · rename_i hu; obtain ⟨n, rfl⟩ := okWide_int hu hok; exact hr
    · cases hf
  | bool =>
    simp only [Ty.fit] at hf
    split at hf
    · rename_i hu; obtain ⟨n, rfl⟩ := okWide_bool hu hok; exact hr
    · cases hf
  | str =>
    simp only [Ty.fit] at hf
    split at hf
    · rename_i hu; obtain ⟨n, rfl⟩ := okWide_string hu hok; exact hr
    · cases hf
  | slice by_ e =>
    simp only [Ty.fit] at hf
    split at hf
    · rename_i hu; obtain ⟨a, n, c, rfl⟩ := okWide_slice hu hok; exact hr
    · cases hf
  | nil => simp [Ty.fit] at hf
  | cons a b =>
    simp only [Ty.fit] at hf
    split at hf
    · rename_i fs hu
      obtain ⟨cs, rfl, _⟩ := okWide_struct hu hok
      exact ⟨cs, rfl, hr⟩
    · rename_i n u hu
      have : ∃ cs, v = .agg cs := by
        simp only [Value.okWide, hu] at hok
        obtain ⟨cs, h1, _⟩ := hok
        exact ⟨cs, h1⟩
      obtain ⟨cs, rfl⟩ := this
      exact ⟨cs, rfl, hr⟩
    · cases hf

def tysFit (P : Program) : List Ty → List TypeId → Bool
  | [], [] => true
  | ty :: tys, t :: ts => ty.fit P (.inl t) && P.readableRec t && decide (t < P.types.size) && tysFit P tys ts
  | _, _ => false

theorem args_of_trodAll {r : Reach} {b : Nat} : ∀ (tys : List Ty) (ts : List TypeId) (vs : List Value) (ds : List (DataW H)) (ps : List MemPlace), tysFit P tys ts = true →
    (∀ (j : Nat) t v, ts[j]? = some t → vs[j]? = some v → Value.okWide P w r b t v) → DataW.TrodAll enc P w 0 (fun _ => true) true ts vs ds ps →
    (∀ x ∈ DataW.weightsEach P ts ds, x ≤ reachBytes) → Args w w.heap.size tys vs ∧ ds.length = tys.length
  | [], [], vs, ds, ps, _, _, h, _ => by cases vs <;> cases ds <;> simp_all [DataW.TrodAll, Args]
  | ty :: tys, t :: ts, vs, ds, ps, hf, hok, h, hl => by
    obtain ⟨v, vs', d, ds', p, q, rfl, rfl, rfl, h0, h1⟩ := trodAll_cons h
    simp only [tysFit, Bool.and_eq_true, decide_eq_true_eq] at hf
    obtain ⟨⟨⟨hf0, _⟩, _⟩, hf1⟩ := hf
    have ih := args_of_trodAll (r := r) (b := b) tys ts vs' ds' q hf1 (fun j t' v' ht hv => hok (j + 1) t' v' (by simpa using ht) (by simpa using hv)) h1
      (fun x hx => hl x (by simp [DataW.weightsEach, hx]))
    exact ⟨⟨arg_of_trod ty hf0 (hok 0 t v rfl rfl) h0 (fun x hx => hl x (by simp [DataW.weightsEach, hx])), ih.1⟩, by simp [ih.2]⟩
  | [], _ :: _, _, _, _, hf, _, _, _ => by simp [tysFit] at hf
  | _ :: _, [], _, _, _, hf, _, _, _ => by simp [tysFit] at hf

theorem trodAll_below (laid : laidOutB P = true) {w' : World} (hb : Below w.heap.size w w') : ∀ (tys : List Ty) (ts : List TypeId) (vs : List Value) (ds : List (DataW H)) (ps : List MemPlace), tysFit P tys ts = true →
    DataW.TrodAll enc P w 0 (fun _ => true) true ts vs ds ps → (∀ x ∈ ps, x.block < w.heap.size) → DataW.TrodAll enc P w' 0 (fun b => decide (b < w.heap.size)) true ts vs ds ps
  | [], [], vs, ds, ps, _, h, _ => by cases vs <;> cases ds <;> simp_all [DataW.TrodAll]
  | ty :: tys, t :: ts, vs, ds, ps, hf, h, hlt => by
    obtain ⟨v, vs', d, ds', p, q, rfl, rfl, rfl, h0, h1⟩ := trodAll_cons h
    simp only [tysFit, Bool.and_eq_true, decide_eq_true_eq] at hf
    obtain ⟨⟨⟨_, hf2⟩, hf3⟩, hf1⟩ := hf
    exact trodAll_cons_mk (Below.trod laid hf2 hf3 h0 hb (fun x hx => hlt x (by simp [hx]))) (trodAll_below laid hb tys ts vs' ds' q hf1 h1 (fun x hx => hlt x (by simp [hx])))
  | [], _ :: _, _, _, _, hf, _, _ => by simp [tysFit] at hf
  | _ :: _, [], _, _, _, hf, _, _ => by simp [tysFit] at hf
end

/-- THE STEP FROM A WALK TO A ROW: a law that returns true and writes nothing that was there. -/
theorem law_lift {C : Checked} {os : Os} {f : FuncId} {fn : Func} {s : ChangeSpec} {H : Type} {enc : TypeId × Value → H} {tb : TypeId} (tys : List Ty)
    (own : ownKnob C.prog.godebug = none) (started : os.Started) (noInit : C.prog.inits.idxOf? f = none) (hfn : C.prog.funcs[f]? = some fn)
    (laid : laidOutB C.prog = true) (hv : s.vars = []) (hfits : tysFit C.prog tys fn.params.toList = true) (hres : fn.resultTypes = #[tb]) (hbool : C.prog.underlying tb = some .bool)
    (hspec : ∀ ds : List (DataW H), ds.length = tys.length → s.fn H ds = { results := [.lit (.bool true)], args := ds })
    (witness : ∃ (w : World) (tape : Tape) (i : Input), w.os = os ∧ (w.forCall tape i).Shaped C.prog ∧ i.vars = [] ∧ Input.okWide C.prog (w.forCall tape i) .any w.heap.size f i ∧
      s.pre6 enc C.prog fn [] false (w.forCall tape i).memory i.args ∧ ({} : Assume).holds C.prog (lone (Frame.enter C.prog f i.args .normal) [] (w.forCall tape i)))
    (walk : ∀ (W : World) (args : Array Value), Args W W.heap.size tys args.toList → Calls C.prog f args W fun e W' => e = .returned (.bool true) ∧ Below W.heap.size W W') :
    ReturnsInHanded {} C os f .any (s.pre6 enc C.prog fn [] false) (s.post enc C.prog fn false true false false) := by
  refine returnsInHanded_of_change_sized own started noInit hfn witness ?_
  intro W base args ds gs before hval hW _ hsz _
  have hW' := hW
  obtain ⟨p, q, hA, hV, rfl, hfz, hnd⟩ := hW
  have hvv : DataW.TrodVars enc C.prog W (fun _ => true) s.vars gs q := hV
  rw [hv] at hvv
  obtain ⟨rfl, rfl⟩ := trodVars_none hvv
  have hlt : ∀ x ∈ p, x.block < W.heap.size := fun x hx => hW'.lt x (by simp [hx])
  have hw : ∀ x ∈ DataW.weightsEach C.prog fn.params.toList ds, x ≤ reachBytes := by
    have e : s.plain.varTypes C.prog = [] := by
      have : s.plain.vars = [] := hv
      simp [DataSpec.varTypes, this]
    rw [e, List.append_nil, List.append_nil] at hsz
    intro x hx
    simpa using List.all_eq_true.1 hsz x hx
  obtain ⟨hargs, hlen⟩ := args_of_trodAll tys _ _ _ _ hfits (fun j t v ht hvj => hval j t v (by rw [← Array.getElem?_toList]; exact ht) (by rw [← Array.getElem?_toList]; exact hvj)) hA hw
  refine (walk W args hargs).mono fun e W' ⟨he, hb⟩ => ?_
  subst he
  have hs := hspec (ds ++ []) (by simpa using hlen)
  refine ⟨_, rfl, ds, [], _, [], p, [], hW', ?_, ?_, ?_, hb.frame _, fun h => by cases h⟩
  · rw [hs, hres]; exact trodAll_mk1 (shut_bool hbool _)
  · rw [hs, List.append_nil]; exact trodAll_below laid hb tys _ _ _ _ hfits hA hlt
  · rw [hs, hv]; rfl

/-- A slice value that reads as a list of one-cell values; its block is below B. -/
def IsVals (B : Nat) (w : World) (v : Value) (xs : List Value) : Prop :=
  ∃ a cap, v = .slice a xs.length cap ∧ xs.length ≤ cap ∧ cap ≤ maxLen ∧ (a = none → cap = 0) ∧
    (xs = [] ∨ ∃ b off, a = some ⟨b, off, none⟩ ∧ b < B ∧ ∀ i, i < xs.length → w.cell? ⟨b, off + i, none⟩ = some (xs.getD i undef))
theorem IsVals.below {B : Nat} {w w' : World} {v : Value} {xs : List Value} (h : IsVals B w v xs) (hb : Below B w w') : IsVals B w' v xs := by
  obtain ⟨a, cap, h1, h2, h3, h4, h5⟩ := h
  exact ⟨a, cap, h1, h2, h3, h4, h5.imp id fun ⟨b, off, g1, g2, g3⟩ => ⟨b, off, g1, g2, fun i hi => (hb.cell (p := ⟨b, off + i, none⟩) g2).trans (g3 i hi)⟩⟩
theorem IsVals.mono {B B' : Nat} {w : World} {v : Value} {xs : List Value} (h : IsVals B w v xs) (hb : B ≤ B') : IsVals B' w v xs := by
  obtain ⟨a, cap, h1, h2, h3, h4, h5⟩ := h
  exact ⟨a, cap, h1, h2, h3, h4, h5.imp id fun ⟨b, off, g1, g2, g3⟩ => ⟨b, off, g1, by omega, g3⟩⟩

/-- A new block of cells. -/
theorem isVals_new (w : World) (xs : List Value) (T : Nat) (h : xs.length ≤ maxLen) : IsVals (w.heap.size + 1) (w.alloc (.cells xs.toArray T)) (.slice (some ⟨w.heap.size, 0, none⟩) xs.length xs.length) xs :=
  ⟨_, _, rfl, Nat.le_refl _, h, by simp, .inr ⟨w.heap.size, 0, rfl, by omega, fun i hi => by rw [Nat.zero_add, World.cell?_alloc_new]; simp [hi]⟩⟩

/-- A slice argument of ints. -/
theorem ints_of_arg {w : World} {B by_ : Nat} {k : IntKind} {v : Value} (h : Arg w B (.slice by_ (.int k)) v) : ∃ zs : List Int, IsVals B w v (zs.map (Value.int k)) ∧ zs.length * by_ ≤ 140737488351232 ∧ ∀ z ∈ zs, (Lit.int k z).wf = true := by
  obtain ⟨a, len, cap, hv, h1, h2, h3, h4, xs, h5, h6, h7⟩ := h
  cases hv
  have hz : ∀ x ∈ xs, ∃ n, x = [.int k n] ∧ (Lit.int k n).wf = true := fun x hx => (h6 x hx).2
  have hx : xs = (xs.map (fun x => match x with | [.int _ n] => n | _ => 0)).map (fun n => [Value.int k n]) := by
    rw [List.map_map]
    conv => lhs; rw [← List.map_id xs]
    refine List.map_congr_left fun x hx => ?_
    obtain ⟨n, rfl, _⟩ := hz x hx
    rfl
  generalize hzs : xs.map (fun x => match x with | [.int _ n] => n | _ => 0) = zs at hx
  have hl : zs.length = len := by rw [← hzs, List.length_map, h5]
  refine ⟨zs, ⟨a, cap, by rw [List.length_map, hl], by rw [List.length_map, hl]; exact h1, h2, h4, ?_⟩, ?_, ?_⟩
  · rcases h7 with h7 | ⟨b, off, e1, e2, e3⟩
    · left; rw [h7] at hl; rw [List.length_eq_zero_iff.1 hl]; rfl
    · refine .inr ⟨b, off, e1, e2, fun i hi => ?_⟩
      rw [List.length_map, hl] at hi
      have := e3 i 0 hi (by simp [Ty.size])
      simp only [Ty.size, Nat.mul_one, Nat.add_zero] at this
      rw [this, hx]
      have hi' : i < zs.length := by omega
      simp [List.getD, hi']
  · rw [hl]; exact Nat.le_trans (Nat.mul_le_mul_right _ h1) h3
  · intro z hz'
    rw [← hzs] at hz'
    obtain ⟨x, hx, rfl⟩ := List.mem_map.1 hz'
    obtain ⟨n, rfl, hw⟩ := hz x hx
    exact hw

theorem int_of_arg {w : World} {B : Nat} {k : IntKind} {v : Value} (h : Arg w B (.int k) v) : ∃ n, v = .int k n ∧ (Lit.int k n).wf = true := by
  obtain ⟨n, e, hw⟩ := h
  cases e
  exact ⟨n, rfl, hw⟩

/-- A world that has grown out of w: what was there has not turned. -/
structure BW (w : World) where
  val : World
  prop : Below w.heap.size w val
instance (w : World) : Nonempty (BW w) := ⟨⟨w, Below.refl _ _⟩⟩
@[go_sem] theorem BW.cell {w : World} (x : BW w) {b o : Nat} (h : b < w.heap.size) : x.val.cell? ⟨b, o, none⟩ = w.cell? ⟨b, o, none⟩ := x.prop.cell (p := ⟨b, o, none⟩) h
@[go_sem] theorem BW.frozen {w : World} (x : BW w) {b o : Nat} (h : b < w.heap.size) : x.val.frozen? ⟨b, o, none⟩ = w.frozen? ⟨b, o, none⟩ := x.prop.frozen (p := ⟨b, o, none⟩) h

section
variable {P : Program}
theorem bw_call {f : FuncId} {args : Array Value} {w : World} {x : BW w} {v : Value} (h : Calls P f args x.val fun e w' => e = .returned v ∧ Below x.val.heap.size x.val w') :
    Calls P f args x.val fun e w'' => e = .returned v ∧ ∃ y : BW w, w'' = y.val :=
  h.mono fun _ w' ⟨he, hb⟩ => ⟨he, ⟨w', x.prop.trans (hb.mono x.prop.size)⟩, rfl⟩
theorem bw_same {f : FuncId} {args : Array Value} {w : World} {x : BW w} {v : Value} (h : Calls P f args x.val fun e w' => e = .returned v ∧ x.val = w') :
    Calls P f args x.val fun e w'' => e = .returned v ∧ ∃ y : BW w, w'' = y.val :=
  h.mono fun _ _ ⟨he, hb⟩ => ⟨he, x, hb.symm⟩
theorem wp_region_bw {id : Nat} {Q : Exit → Act → World → Prop} {a : Act} {w : World} {l : List Oper} (hm : P.follows .mixedOrders = true) (hB : Region.lexB .any l.toArray = true)
    (h : wpQuiet P l.toArray (fun w' => ∃ x : BW w, w' = x.val) (fun a' => ∀ w', (∃ x : BW w, w' = x.val) → Q .normal a' w') l a) : (Code.region id l.toArray true).wp P Q a w :=
  wp_region_quiet (C := fun w' => ∃ x : BW w, w' = x.val) hm hB ⟨⟨w.drew, (Below.refl _ _).drew⟩, rfl⟩ (by simpa using h)
end
end Go.Peri
