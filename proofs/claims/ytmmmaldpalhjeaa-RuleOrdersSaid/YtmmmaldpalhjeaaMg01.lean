/- General lemmas for law rows: what arguments of plain types read as, and the step from a walk to a row. General lemmas on worlds: which blocks may have turned; slices that read as lists; whole blocks. No program in sight. General lemmas on slices of structs: a slice that reads as a list of elements of k cells each. No program in sight. Headers as plain data, and what cells of them read as. No program in sight. Plain facts of layer 4 (head). No program in sight. -/
import Derived.WalkKit
import Derived.WalkSpells
import Derived.WalkLawsBesides
import Derived.Handy
import Derived.BigQuiet
import Derived.ProofKit
import Derived.OpenShut
import Derived.ShutString
import Derived.ChangeOld
import Derived.Below
import Derived.SizedLaws
import Derived.ChangeArms
import Derived.Deep.Slices
import Derived.StillTailTactics
import Derived.BigRegion
import Derived.Deep.RegionHeld3
import Derived.Laws.LoneSync
import Derived.Laws.AppendOwnNone
import Derived.Laws.Cells
namespace Go.Peri
open Go.RowKit Go.ChangeShapes Go.WideShapes Go.ChangeAt

theorem hid {p : Prop} (h : p) : Hid p := h
theorem ret_int {k : IntKind} {a b : Int} (h : a = b) : Ending.returned (.int k a) = .returned (.int k b) := by rw [h]
theorem ret_bool {a b : Bool} (h : a = b) : Ending.returned (.bool a) = .returned (.bool b) := by rw [h]

/-- Plain types. -/
inductive Ty where
  | int (k : IntKind)
  | bool
  | str
  | slice (bytes : Nat) (e : Ty)
  | nil
  | cons (a b : Ty)

def Ty.size : Ty → Nat
  | .nil => 0
  | .cons a b => a.size + b.size
  | _ => 1

def Ty.agg : Ty → Bool
  | .nil => true
  | .cons _ _ => true
  | _ => false

def Ty.fit (P : Program) : Ty → Sum TypeId (List (Nat × TypeId) × Nat) → Bool
  | .int k, .inl t => match P.underlying t with | some (.int k') => decide (k = k') | _ => false
  | .bool, .inl t => match P.underlying t with | some .bool => true | _ => false
  | .str, .inl t => match P.underlying t with | some .string => true | _ => false
  | .slice by_ e, .inl t => match P.underlying t with | some (.slice u) => e.fit P (.inl u) && decide (P.cellsOf u = e.size) && decide (P.bytesOf u = by_) && decide (1 ≤ e.size) | _ => false
  | .cons a b, .inl t => match P.underlying t with
    | some (.struct fs) => decide (P.cellsOf t = a.size + b.size) && (match fs.toList with | f :: l => decide (f.offset = 0) && decide (P.cellsOf f.type = a.size) && a.fit P (.inl f.type) && b.fit P (.inr (l.map (fun f => (f.offset, f.type)), a.size)) | [] => false)
    | some (.array n u) => decide (P.cellsOf t = a.size + b.size) && (match n with | n + 1 => decide (P.cellsOf u = a.size) && a.fit P (.inl u) && b.fit P (.inr ((List.range n).map (fun i => ((i + 1) * P.cellsOf u, u)), a.size)) | 0 => false)
    | _ => false
  | .nil, .inr (l, _) => l.isEmpty
  | .cons a b, .inr (l, off) => match l with | (o, u) :: l => decide (o = off) && decide (P.cellsOf u = a.size) && a.fit P (.inl u) && b.fit P (.inr (l, off + a.size)) | [] => false
  | _, _ => false

/-- What cells of a plain type hold: blocks of what is led to are below B. -/
def Rd (w : World) (B : Nat) : Ty → List Value → Prop
  | .int k, cs => ∃ n, cs = [.int k n] ∧ (Lit.int k n).wf = true
  | .bool, cs => ∃ b, cs = [.bool b]
  | .str, cs => ∃ s : ByteArray, cs = [.string s] ∧ s.size ≤ maxLen ∧ s.size ≤ 140737488351232
  | .slice by_ e, cs => ∃ a len cap, cs = [.slice a len cap] ∧ len ≤ cap ∧ cap ≤ maxLen ∧ cap * by_ ≤ 140737488351232 ∧ (a = none → cap = 0) ∧
      ∃ xs : List (List Value), xs.length = len ∧ (∀ x ∈ xs, x.length = e.size ∧ Rd w B e x) ∧
        (len = 0 ∨ ∃ b off, a = some ⟨b, off, none⟩ ∧ b < B ∧ ∀ i j, i < len → j < e.size → w.cell? ⟨b, off + (i * e.size + j), none⟩ = some ((xs.getD i []).getD j undef))
  | .nil, cs => cs = []
  | .cons a b, cs => ∃ c1 c2, cs = c1 ++ c2 ∧ c1.length = a.size ∧ Rd w B a c1 ∧ Rd w B b c2

theorem Rd.below {w w' : World} {B : Nat} (hb : Below B w w') : ∀ (ty : Ty) (cs : List Value), Rd w B ty cs → Rd w' B ty cs
  | .int _, _, h => h
  | .bool, _, h => h
  | .str, _, h => h
  | .nil, _, h => h
  | .cons a b, _, ⟨c1, c2, h1, h2, h3, h4⟩ => ⟨c1, c2, h1, h2, Rd.below hb a _ h3, Rd.below hb b _ h4⟩
  | .slice _ e, _, ⟨a, len, cap, h1, h2, h3, h4, h5, xs, h6, h7, h8⟩ =>
    ⟨a, len, cap, h1, h2, h3, h4, h5, xs, h6, fun x hx => ⟨(h7 x hx).1, Rd.below hb e x (h7 x hx).2⟩,
      h8.imp id fun ⟨b, off, g1, g2, g3⟩ => ⟨b, off, g1, g2, fun i j hi hj => (hb.cell (p := ⟨b, off + (i * e.size + j), none⟩) g2).trans (g3 i j hi hj)⟩⟩

section
variable {H : Type} {enc : TypeId × Value → H} {P : Program} {w : World}

theorem weights_mem_all {e : TypeId} : ∀ {ds : List (DataW H)} {i : Nat} {d : DataW H}, ds[i]? = some d → ∀ x ∈ d.weights P e, x ∈ DataW.weightsAll P e ds
  | [], i, d, h, _, _ => by simp at h
  | d' :: ds, 0, d, h, x, hx => by simp at h; subst h; simp [DataW.weightsAll, hx]
  | d' :: ds, i + 1, d, h, x, hx => by simp at h; simp [DataW.weightsAll, weights_mem_all h x hx]

/-- The weights of a datum are within the reach. -/
def Light (P : Program) (t : TypeId) (d : DataW H) : Prop := ∀ x ∈ d.weights P t, x ≤ reachBytes

theorem rd_of_trod : ∀ (ty : Ty) (y : Sum TypeId (List (Nat × TypeId) × Nat)), ty.fit P y = true →
    (∀ t fuel cs d ps, y = .inl t → DataW.trod enc P w 0 (fun _ => true) true fuel t cs = some (d, ps) → Light P t d → cs.length = ty.size ∧ Rd w w.heap.size ty cs) ∧
    (∀ (l : List (Nat × TypeId)) (off fuel : Nat) (cs : List Value), y = .inr (l, off) → (∀ (i o u : Nat), l[i]? = some (o, u) → ∃ d ps, DataW.trod enc P w 0 (fun _ => true) true fuel u ((cs.drop o).take (P.cellsOf u)) = some (d, ps) ∧ Light P u d) → cs.length = off + ty.size → Rd w w.heap.size ty (cs.drop off)) := by
  intro ty
  induction ty with
  | int k =>
    intro y hf
    match y, hf with
    | .inl t, hf =>
      simp only [Ty.fit] at hf
      split at hf
      · rename_i k' hu
        have hk := of_decide_eq_true hf
        subst hk
        refine ⟨fun t' fuel cs d ps e h _ => ?_, fun l off fuel cs e => (by cases e)⟩
        cases e
        obtain ⟨n, rfl, _, hw⟩ := DataW.trod_int hu h
        exact ⟨rfl, n, rfl, hw⟩
      · cases hf
    | .inr _, hf => simp [Ty.fit] at hf
  | bool =>
    intro y hf
    match y, hf with
    | .inl t, hf =>
      simp only [Ty.fit] at hf
      split at hf
      · rename_i hu
        refine ⟨fun t' fuel cs d ps e h _ => ?_, fun l off fuel cs e => (by cases e)⟩
        cases e
        obtain ⟨b, rfl, _⟩ := DataW.trod_bool hu h
        exact ⟨rfl, b, rfl⟩
      · cases hf
    | .inr _, hf => simp [Ty.fit] at hf
  | str =>
    intro y hf
    match y, hf with
    | .inl t, hf =>
      simp only [Ty.fit] at hf
      split at hf
      · rename_i hu
        refine ⟨fun t' fuel cs d ps e h hl => ?_, fun l off fuel cs e => (by cases e)⟩
        cases e
        obtain ⟨s, rfl, hx, hw⟩ := DataW.trod_string hu h
        obtain ⟨rfl, -⟩ := Prod.mk.inj hx
        have := hl s.size (by simp only [DataW.weights, List.mem_singleton]; rw [Array.length_toList]; rfl)
        exact ⟨rfl, s, rfl, hw, this⟩
      · cases hf
    | .inr _, hf => simp [Ty.fit] at hf
  | slice by_ e ih =>
    intro y hf
    match y, hf with
    | .inl t, hf =>
      simp only [Ty.fit] at hf
      split at hf
      · rename_i u hu
        simp only [Bool.and_eq_true, decide_eq_true_eq] at hf
        obtain ⟨⟨⟨hf1, hf2⟩, hf3⟩, hf4⟩ := hf
        have ih' := (ih (.inl u) hf1).1
        refine ⟨fun t' fuel cs d ps e h hl => ?_, fun l off fuel cs e => (by cases e)⟩
        cases e
        rcases Deep.open_slice hu h with ⟨rfl, _⟩ | ⟨a, len, cap, m, n, D, Pl, rfl, _, hlc, hcm, hm, hx, hel⟩
        · exact ⟨rfl, none, 0, 0, rfl, Nat.le_refl _, Nat.zero_le _, by omega, fun _ => rfl, [], rfl, by simp, .inl rfl⟩
        · simp only [if_true] at hm
          obtain rfl : cap = m := hm.symm
          obtain ⟨rfl, -⟩ := Prod.mk.inj hx
          have hwt : cap * by_ ≤ 140737488351232 := by
            have := hl ((len + (cap - len)) * by_) (by simp [DataW.weights, hu, hf3])
            rw [show len + (cap - len) = cap by omega] at this
            exact this
          have hin : ∀ i, i < len → ∃ cs', cs'.length = e.size ∧ (∀ j, j < e.size → w.cell? (a.add (i * e.size + j)) = cs'[j]?) ∧ Rd w w.heap.size e cs' := by
            intro i hi
            obtain ⟨cs', h1, h2⟩ := hel i (by omega)
            obtain ⟨_, h3, h4⟩ := World.cells?_some h1
            rw [hf2] at h3 h4
            have hlt : Light P u (D i) := by
              intro x hx
              refine hl x ?_
              simp only [DataW.weights, hu, List.mem_cons, List.mem_append]
              exact .inr (.inl (weights_mem_all (i := i) (by simp [hi]) x hx))
            exact ⟨cs', h3, fun j hj => by rw [← h4 j hj, Deep.add_add], (ih' u n cs' _ _ rfl h2 hlt).2⟩
          obtain ⟨F, hF⟩ := Deep.choose_lt hin
          refine ⟨rfl, some a, len, cap, rfl, hlc, hcm, hwt, by simp, (List.range len).map F, by simp, ?_, ?_⟩
          · intro x hx
            obtain ⟨i, hi, rfl⟩ := List.mem_map.1 hx
            have := hF i (List.mem_range.1 hi)
            exact ⟨this.1, this.2.2⟩
          · by_cases h0 : len = 0
            · exact .inl h0
            · right
              obtain ⟨b, off, spot⟩ := a
              have c0 := (hF 0 (by omega)).2.1 0 (by omega)
              have hl0 := (hF 0 (by omega)).1
              rw [List.getElem?_eq_getElem (by omega)] at c0
              have hs : spot = none := by simpa [Addr.add] using World.cell?_spot c0
              subst hs
              refine ⟨b, off, rfl, ?_, ?_⟩
              · have : (⟨b, off, none⟩ : Addr).block < w.heap.size := by
                  have h9 := (World.cells?_block (w := w) (base := 0) (a := ⟨b, off, none⟩) (n := 1) (cs := [(F 0)[0]'(by omega)]) (by
                    refine cells?_one (Nat.zero_le _) ?_
                    simpa [Addr.add] using c0) (by omega))
                  exact h9
                exact this
              · intro i j hi hj
                have := (hF i hi).2.1 j hj
                have hlen := (hF i hi).1
                have e1 : ((List.range len).map F).getD i [] = F i := by simp [List.getD, hi]
                rw [e1]
                have e2 : (⟨b, off, none⟩ : Addr).add (i * e.size + j) = ⟨b, off + (i * e.size + j), none⟩ := by
                  unfold Addr.add
                  split
                  · rename_i hz; rw [hz]; rfl
                  · rfl
                rw [e2] at this
                rw [this, List.getD, List.getElem?_eq_getElem (by omega)]
                rfl
      · cases hf
    | .inr _, hf => simp [Ty.fit] at hf
  | nil =>
    intro y hf
    match y, hf with
    | .inl t, hf => simp [Ty.fit] at hf
    | .inr (l, off), hf =>
      refine ⟨fun t' fuel cs d ps e => (by cases e), fun l off fuel cs e _ hlen => ?_⟩
      simp only [Rd]
      simp [Ty.size] at hlen
      simp [hlen]
  | cons a b iha ihb =>
    intro y hf
    match y, hf with
    | .inl t, hf =>
      refine ⟨fun t' fuel cs d ps e h hl => ?_, fun l off fuel cs e => (by cases e)⟩
      cases e
      simp only [Ty.fit] at hf
      split at hf
      · rename_i fs hu
        simp only [Bool.and_eq_true, decide_eq_true_eq] at hf
        obtain ⟨hsz, hf⟩ := hf
        split at hf
        · rename_i f l hfl
          simp only [Bool.and_eq_true, decide_eq_true_eq] at hf
          obtain ⟨⟨⟨ho, hc⟩, hfa⟩, hfb⟩ := hf
          obtain ⟨xs, n, _, hx, hlen, hxl, hel⟩ := DataW.trod_struct hu h
          obtain ⟨rfl, -⟩ := Prod.mk.inj hx
          have hlt : ∀ (i : Nat) (g : Field), fs[i]? = some g → ∃ d ps, DataW.trod enc P w 0 (fun _ => true) true n g.type ((cs.drop g.offset).take (P.cellsOf g.type)) = some (d, ps) ∧ Light P g.type d := by
            intro i g hg
            have hi : i < fs.size := (Array.getElem?_eq_some_iff.1 hg).1
            have h2 := hel i g hg
            rw [List.getElem?_eq_getElem (by omega)] at h2
            refine ⟨_, _, h2, ?_⟩
            intro x hx
            refine hl x ?_
            simp only [DataW.weights, hu]
            refine DataW.weights_mem_each (j := i) (t := g.type) (d := (xs[i]'(by omega)).1) ?_ ?_ x hx
            · rw [List.getElem?_map, Array.getElem?_toList, hg]; rfl
            · rw [List.getElem?_map, List.getElem?_eq_getElem (by omega)]; rfl
          refine ⟨by rw [hlen, hsz]; rfl, ?_⟩
          have hf0 : fs[0]? = some f := by rw [← Array.getElem?_toList, hfl]; rfl
          obtain ⟨d0, p0, h0, l0⟩ := hlt 0 f hf0
          rw [ho, hc, List.drop_zero] at h0
          obtain ⟨la, ra⟩ := (iha _ hfa).1 _ _ _ _ _ rfl h0 l0
          have rb := (ihb _ hfb).2 _ _ n cs rfl (fun i o u hi => by
            rw [List.getElem?_map] at hi
            obtain ⟨g, hg, e⟩ := Option.map_eq_some_iff.1 hi
            cases e
            exact hlt (i + 1) g (by rw [← Array.getElem?_toList, hfl]; simpa using hg)) (by rw [hlen, hsz])
          exact ⟨cs.take a.size, cs.drop a.size, (List.take_append_drop _ _).symm, la, ra, rb⟩
        · cases hf
      · rename_i n u hu
        simp only [Bool.and_eq_true, decide_eq_true_eq] at hf
        obtain ⟨hsz, hf⟩ := hf
        match n, hu, hf with
        | n + 1, hu, hf =>
          simp only [Bool.and_eq_true, decide_eq_true_eq] at hf
          obtain ⟨⟨hc, hfa⟩, hfb⟩ := hf
          obtain ⟨xs, m, _, hx, hlen, hxl, hel⟩ := DataW.trod_array hu h
          obtain ⟨rfl, -⟩ := Prod.mk.inj hx
          have hlt : ∀ i, i < n + 1 → ∃ d ps, DataW.trod enc P w 0 (fun _ => true) true m u ((cs.drop (i * P.cellsOf u)).take (P.cellsOf u)) = some (d, ps) ∧ Light P u d := by
            intro i hi
            have h2 := hel i hi
            rw [List.getElem?_eq_getElem (by omega)] at h2
            refine ⟨_, _, h2, ?_⟩
            intro x hx
            refine hl x ?_
            simp only [DataW.weights, hu]
            refine weights_mem_all (i := i) (d := (xs[i]'(by omega)).1) ?_ x hx
            rw [List.getElem?_map, List.getElem?_eq_getElem (by omega)]; rfl
          refine ⟨by rw [hlen, hsz]; rfl, ?_⟩
          obtain ⟨d0, p0, h0, l0⟩ := hlt 0 (by omega)
          rw [hc, Nat.zero_mul, List.drop_zero] at h0
          obtain ⟨la, ra⟩ := (iha _ hfa).1 _ _ _ _ _ rfl h0 l0
          have rb := (ihb _ hfb).2 _ _ m cs rfl (fun i o u' hi => by
            rw [List.getElem?_map] at hi
            obtain ⟨g, hg, e⟩ := Option.map_eq_some_iff.1 hi
            cases e
            have hg' : g = i ∧ i < n := by
              have := List.getElem?_eq_some_iff.1 hg
              obtain ⟨h1, h2⟩ := this
              simp at h1 h2
              omega
            rw [hg'.1]
            exact hlt (i + 1) (by omega)) (by rw [hlen, hsz])
          exact ⟨cs.take a.size, cs.drop a.size, (List.take_append_drop _ _).symm, la, ra, rb⟩
        | 0, hu, hf => cases hf
      · cases hf
    | .inr (l, off), hf =>
      refine ⟨fun t' fuel cs d ps e => (by cases e), fun l' off' fuel cs e hel hlen => ?_⟩
      cases e
      simp only [Ty.fit] at hf
      match l, hf, hel with
      | (o, u) :: l, hf, hel =>
        simp only [Bool.and_eq_true, decide_eq_true_eq] at hf
        obtain ⟨⟨⟨ho, hc⟩, hfa⟩, hfb⟩ := hf
        obtain ⟨d0, p0, h0, l0⟩ := hel 0 o u rfl
        rw [ho, hc] at h0
        obtain ⟨la, ra⟩ := (iha _ hfa).1 _ _ _ _ _ rfl h0 l0
        have rb := (ihb _ hfb).2 _ _ fuel cs rfl (fun i o' u' hi => hel (i + 1) o' u' (by simpa using hi)) (by simp [Ty.size] at hlen; omega)
        refine ⟨(cs.drop off).take a.size, (cs.drop off).drop a.size, (List.take_append_drop _ _).symm, la, ra, ?_⟩
        rw [List.drop_drop]
        exact rb
      | [], hf, _ => cases hf

/-- An argument's value. -/
def Arg (w : World) (B : Nat) : Ty → Value → Prop
  | .nil, v => ∃ cs, v = .agg cs ∧ Rd w B .nil cs.toList
  | .cons a b, v => ∃ cs, v = .agg cs ∧ Rd w B (.cons a b) cs.toList
  | ty, v => Rd w B ty [v]

def Args (w : World) (B : Nat) : List Ty → List Value → Prop
  | [], [] => True
  | ty :: tys, v :: vs => Arg w B ty v ∧ Args w B tys vs
  | _, _ => False

theorem args_one {B : Nat} {t0 : Ty} {args : Array Value} (h : Args w B [t0] args.toList) : ∃ v0, args = #[v0] ∧ Arg w B t0 v0 := by
  obtain ⟨l⟩ := args
  match l, h with
  | [v0], h => exact ⟨v0, rfl, h.1⟩
theorem args_two {B : Nat} {t0 t1 : Ty} {args : Array Value} (h : Args w B [t0, t1] args.toList) : ∃ v0 v1, args = #[v0, v1] ∧ Arg w B t0 v0 ∧ Arg w B t1 v1 := by
  obtain ⟨l⟩ := args
  match l, h with
  | [v0, v1], h => exact ⟨v0, v1, rfl, h.1, h.2.1⟩
theorem args_three {B : Nat} {t0 t1 t2 : Ty} {args : Array Value} (h : Args w B [t0, t1, t2] args.toList) : ∃ v0 v1 v2, args = #[v0, v1, v2] ∧ Arg w B t0 v0 ∧ Arg w B t1 v1 ∧ Arg w B t2 v2 := by
  obtain ⟨l⟩ := args
  match l, h with
  | [v0, v1, v2], h => exact ⟨v0, v1, v2, rfl, h.1, h.2.1, h.2.2.1⟩
theorem args_four {B : Nat} {t0 t1 t2 t3 : Ty} {args : Array Value} (h : Args w B [t0, t1, t2, t3] args.toList) : ∃ v0 v1 v2 v3, args = #[v0, v1, v2, v3] ∧ Arg w B t0 v0 ∧ Arg w B t1 v1 ∧ Arg w B t2 v2 ∧ Arg w B t3 v3 := by
  obtain ⟨l⟩ := args
  match l, h with
  | [v0, v1, v2, v3], h => exact ⟨v0, v1, v2, v3, rfl, h.1, h.2.1, h.2.2.1, h.2.2.2.1⟩

theorem arg_of_trod (ty : Ty) {r : Reach} {b : Nat} {t : TypeId} {v : Value} {d : DataW H} {ps : List MemPlace} (hf : ty.fit P (.inl t) = true) (hok : Value.okWide P w r b t v)
    (h : DataW.Trod enc P w 0 (fun _ => true) true t v d ps) (hl : Light P t d) : Arg w w.heap.size ty v := by
  obtain ⟨fuel, h⟩ := h
  have hr := ((rd_of_trod ty (.inl t) hf).1 t fuel _ d ps rfl h hl).2
  cases ty with
  | int k =>
    simp only [Ty.fit] at hf
    split at hf
    · rename_i hu; obtain ⟨n, rfl⟩ := okWide_int hu hok; exact hr
    · cases hf
  | bool =>
    simp only [Ty.fit] at hf
    split at hf
    · rename_i hu; obtain ⟨n, rfl⟩ := okWide_bool hu hok; exact hr
    · cases hf
  | str =>
    simp only [Ty.fit] at hf
    split at hf
    · rename_i hu; obtain ⟨n, rfl⟩ := okWide_string hu hok; exact hr
    · cases hf
  | slice by_ e =>
    simp only [Ty.fit] at hf
    split at hf
    · rename_i hu; obtain ⟨a, n, c, rfl⟩ := okWide_slice hu hok; exact hr
    · cases hf
  | nil => simp [Ty.fit] at hf
  | cons a b =>
    simp only [Ty.fit] at hf
    split at hf
    · rename_i fs hu
      obtain ⟨cs, rfl, _⟩ := okWide_struct hu hok
      exact ⟨cs, rfl, hr⟩
    · rename_i n u hu
      have : ∃ cs, v = .agg cs := by
        simp only [Value.okWide, hu] at hok
        obtain ⟨cs, h1, _⟩ := hok
        exact ⟨cs, h1⟩
      obtain ⟨cs, rfl⟩ := this
      exact ⟨cs, rfl, hr⟩
    · cases hf

def tysFit (P : Program) : List Ty → List TypeId → Bool
  | [], [] => true
  | ty :: tys, t :: ts => ty.fit P (.inl t) && P.readableRec t && decide (t < P.types.size) && tysFit P tys ts
  | _, _ => false

theorem args_of_trodAll {r : Reach} {b : Nat} : ∀ (tys : List Ty) (ts : List TypeId) (vs : List Value) (ds : List (DataW H)) (ps : List MemPlace), tysFit P tys ts = true →
    (∀ (j : Nat) t v, ts[j]? = some t → vs[j]? = some v → Value.okWide P w r b t v) → DataW.TrodAll enc P w 0 (fun _ => true) true ts vs ds ps →
    (∀ x ∈ DataW.weightsEach P ts ds, x ≤ reachBytes) → Args w w.heap.size tys vs ∧ ds.length = tys.length
  | [], [], vs, ds, ps, _, _, h, _ => by cases vs <;> cases ds <;> simp_all [DataW.TrodAll, Args]
  | ty :: tys, t :: ts, vs, ds, ps, hf, hok, h, hl => by
    obtain ⟨v, vs', d, ds', p, q, rfl, rfl, rfl, h0, h1⟩ := trodAll_cons h
    simp only [tysFit, Bool.and_eq_true, decide_eq_true_eq] at hf
    obtain ⟨⟨⟨hf0, _⟩, _⟩, hf1⟩ := hf
    have ih := args_of_trodAll (r := r) (b := b) tys ts vs' ds' q hf1 (fun j t' v' ht hv => hok (j + 1) t' v' (by simpa using ht) (by simpa using hv)) h1
      (fun x hx => hl x (by simp [DataW.weightsEach, hx]))
    exact ⟨⟨arg_of_trod ty hf0 (hok 0 t v rfl rfl) h0 (fun x hx => hl x (by simp [DataW.weightsEach, hx])), ih.1⟩, by simp [ih.2]⟩
  | [], _ :: _, _, _, _, hf, _, _, _ => by simp [tysFit] at hf
  | _ :: _, [], _, _, _, hf, _, _, _ => by simp [tysFit] at hf

theorem trodAll_below (laid : laidOutB P = true) {w' : World} (hb : Below w.heap.size w w') : ∀ (tys : List Ty) (ts : List TypeId) (vs : List Value) (ds : List (DataW H)) (ps : List MemPlace), tysFit P tys ts = true →
    DataW.TrodAll enc P w 0 (fun _ => true) true ts vs ds ps → (∀ x ∈ ps, x.block < w.heap.size) → DataW.TrodAll enc P w' 0 (fun b => decide (b < w.heap.size)) true ts vs ds ps
  | [], [], vs, ds, ps, _, h, _ => by cases vs <;> cases ds <;> simp_all [DataW.TrodAll]
  | ty :: tys, t :: ts, vs, ds, ps, hf, h, hlt => by
    obtain ⟨v, vs', d, ds', p, q, rfl, rfl, rfl, h0, h1⟩ := trodAll_cons h
    simp only [tysFit, Bool.and_eq_true, decide_eq_true_eq] at hf
    obtain ⟨⟨⟨_, hf2⟩, hf3⟩, hf1⟩ := hf
    exact trodAll_cons_mk (Below.trod laid hf2 hf3 h0 hb (fun x hx => hlt x (by simp [hx]))) (trodAll_below laid hb tys ts vs' ds' q hf1 h1 (fun x hx => hlt x (by simp [hx])))
  | [], _ :: _, _, _, _, hf, _, _ => by simp [tysFit] at hf
  | _ :: _, [], _, _, _, hf, _, _ => by simp [tysFit] at hf
end

/-- THE STEP FROM A WALK TO A ROW: a law that returns true and writes nothing that was there. -/
theorem law_lift {C : Checked} {os : Os} {f : FuncId} {fn : Func} {s : ChangeSpec} {H : Type} {enc : TypeId × Value → H} {tb : TypeId} (tys : List Ty)
    (own : ownKnob C.prog.godebug = none) (started : os.Started) (noInit : C.prog.inits.idxOf? f = none) (hfn : C.prog.funcs[f]? = some fn)
    (laid : laidOutB C.prog = true) (hv : s.vars = []) (hfits : tysFit C.prog tys fn.params.toList = true) (hres : fn.resultTypes = #[tb]) (hbool : C.prog.underlying tb = some .bool)
    (hspec : ∀ ds : List (DataW H), ds.length = tys.length → s.fn H ds = { results := [.lit (.bool true)], args := ds })
    (witness : ∃ (w : World) (tape : Tape) (i : Input), w.os = os ∧ (w.forCall tape i).Shaped C.prog ∧ i.vars = [] ∧ Input.okWide C.prog (w.forCall tape i) .any w.heap.size f i ∧
      s.pre6 enc C.prog fn [] false (w.forCall tape i).memory i.args ∧ ({} : Assume).holds C.prog (lone (Frame.enter C.prog f i.args .normal) [] (w.forCall tape i)))
    (walk : ∀ (W : World) (args : Array Value), Args W W.heap.size tys args.toList → Calls C.prog f args W fun e W' => e = .returned (.bool true) ∧ Below W.heap.size W W') :
    ReturnsInHanded {} C os f .any (s.pre6 enc C.prog fn [] false) (s.post enc C.prog fn false true false false) := by
  refine returnsInHanded_of_change_sized own started noInit hfn witness ?_
  intro W base args ds gs before hval hW _ hsz _
  have hW' := hW
  obtain ⟨p, q, hA, hV, rfl, hfz, hnd⟩ := hW
  have hvv : DataW.TrodVars enc C.prog W (fun _ => true) s.vars gs q := hV
  rw [hv] at hvv
  obtain ⟨rfl, rfl⟩ := trodVars_none hvv
  have hlt : ∀ x ∈ p, x.block < W.heap.size := fun x hx => hW'.lt x (by simp [hx])
  have hw : ∀ x ∈ DataW.weightsEach C.prog fn.params.toList ds, x ≤ reachBytes := by
    have e : s.plain.varTypes C.prog = [] := by
      have : s.plain.vars = [] := hv
      simp [DataSpec.varTypes, this]
    rw [e, List.append_nil, List.append_nil] at hsz
    intro x hx
    simpa using List.all_eq_true.1 hsz x hx
  obtain ⟨hargs, hlen⟩ := args_of_trodAll tys _ _ _ _ hfits (fun j t v ht hvj => hval j t v (by rw [← Array.getElem?_toList]; exact ht) (by rw [← Array.getElem?_toList]; exact hvj)) hA hw
  refine (walk W args hargs).mono fun e W' ⟨he, hb⟩ => ?_
  subst he
  have hs := hspec (ds ++ []) (by simpa using hlen)
  refine ⟨_, rfl, ds, [], _, [], p, [], hW', ?_, ?_, ?_, hb.frame _, fun h => by cases h⟩
  · rw [hs, hres]; exact trodAll_mk1 (shut_bool hbool _)
  · rw [hs, List.append_nil]; exact trodAll_below laid hb tys _ _ _ _ hfits hA hlt
  · rw [hs, hv]; rfl

/-- A slice value that reads as a list of one-cell values; its block is below B. -/
def IsVals (B : Nat) (w : World) (v : Value) (xs : List Value) : Prop :=
  ∃ a cap, v = .slice a xs.length cap ∧ xs.length ≤ cap ∧ cap ≤ maxLen ∧ (a = none → cap = 0) ∧
    (xs = [] ∨ ∃ b off, a = some ⟨b, off, none⟩ ∧ b < B ∧ ∀ i, i < xs.length → w.cell? ⟨b, off + i, none⟩ = some (xs.getD i undef))
theorem IsVals.below {B : Nat} {w w' : World} {v : Value} {xs : List Value} (h : IsVals B w v xs) (hb : Below B w w') : IsVals B w' v xs := by
  obtain ⟨a, cap, h1, h2, h3, h4, h5⟩ := h
  exact ⟨a, cap, h1, h2, h3, h4, h5.imp id fun ⟨b, off, g1, g2, g3⟩ => ⟨b, off, g1, g2, fun i hi => (hb.cell (p := ⟨b, off + i, none⟩) g2).trans (g3 i hi)⟩⟩
theorem IsVals.mono {B B' : Nat} {w : World} {v : Value} {xs : List Value} (h : IsVals B w v xs) (hb : B ≤ B') : IsVals B' w v xs := by
  obtain ⟨a, cap, h1, h2, h3, h4, h5⟩ := h
  exact ⟨a, cap, h1, h2, h3, h4, h5.imp id fun ⟨b, off, g1, g2, g3⟩ => ⟨b, off, g1, by omega, g3⟩⟩

/-- A new block of cells. -/
theorem isVals_new (w : World) (xs : List Value) (T : Nat) (h : xs.length ≤ maxLen) : IsVals (w.heap.size + 1) (w.alloc (.cells xs.toArray T)) (.slice (some ⟨w.heap.size, 0, none⟩) xs.length xs.length) xs :=
  ⟨_, _, rfl, Nat.le_refl _, h, by simp, .inr ⟨w.heap.size, 0, rfl, by omega, fun i hi => by rw [Nat.zero_add, World.cell?_alloc_new]; simp [hi]⟩⟩

/-- A slice argument of ints. -/
theorem ints_of_arg {w : World} {B by_ : Nat} {k : IntKind} {v : Value} (h : Arg w B (.slice by_ (.int k)) v) : ∃ zs : List Int, IsVals B w v (zs.map (Value.int k)) ∧ zs.length * by_ ≤ 140737488351232 ∧ ∀ z ∈ zs, (Lit.int k z).wf = true := by
  obtain ⟨a, len, cap, hv, h1, h2, h3, h4, xs, h5, h6, h7⟩ := h
  cases hv
  have hz : ∀ x ∈ xs, ∃ n, x = [.int k n] ∧ (Lit.int k n).wf = true := fun x hx => (h6 x hx).2
  have hx : xs = (xs.map (fun x => match x with | [.int _ n] => n | _ => 0)).map (fun n => [Value.int k n]) := by
    rw [List.map_map]
    conv => lhs; rw [← List.map_id xs]
    refine List.map_congr_left fun x hx => ?_
    obtain ⟨n, rfl, _⟩ := hz x hx
    rfl
  generalize hzs : xs.map (fun x => match x with | [.int _ n] => n | _ => 0) = zs at hx
  have hl : zs.length = len := by rw [← hzs, List.length_map, h5]
  refine ⟨zs, ⟨a, cap, by rw [List.length_map, hl], by rw [List.length_map, hl]; exact h1, h2, h4, ?_⟩, ?_, ?_⟩
  · rcases h7 with h7 | ⟨b, off, e1, e2, e3⟩
    · left; rw [h7] at hl; rw [List.length_eq_zero_iff.1 hl]; rfl
    · refine .inr ⟨b, off, e1, e2, fun i hi => ?_⟩
      rw [List.length_map, hl] at hi
      have := e3 i 0 hi (by simp [Ty.size])
      simp only [Ty.size, Nat.mul_one, Nat.add_zero] at this
      rw [this, hx]
      have hi' : i < zs.length := by omega
      simp [List.getD, hi']
  · rw [hl]; exact Nat.le_trans (Nat.mul_le_mul_right _ h1) h3
  · intro z hz'
    rw [← hzs] at hz'
    obtain ⟨x, hx, rfl⟩ := List.mem_map.1 hz'
    obtain ⟨n, rfl, hw⟩ := hz x hx
    exact hw

theorem int_of_arg {w : World} {B : Nat} {k : IntKind} {v : Value} (h : Arg w B (.int k) v) : ∃ n, v = .int k n ∧ (Lit.int k n).wf = true := by
  obtain ⟨n, e, hw⟩ := h
  cases e
  exact ⟨n, rfl, hw⟩

/-- A world that has grown out of w: what was there has not turned. -/
structure BW (w : World) where
  val : World
  prop : Below w.heap.size w val
instance (w : World) : Nonempty (BW w) := ⟨⟨w, Below.refl _ _⟩⟩
@[go_sem] theorem BW.cell {w : World} (x : BW w) {b o : Nat} (h : b < w.heap.size) : x.val.cell? ⟨b, o, none⟩ = w.cell? ⟨b, o, none⟩ := x.prop.cell (p := ⟨b, o, none⟩) h
@[go_sem] theorem BW.frozen {w : World} (x : BW w) {b o : Nat} (h : b < w.heap.size) : x.val.frozen? ⟨b, o, none⟩ = w.frozen? ⟨b, o, none⟩ := x.prop.frozen (p := ⟨b, o, none⟩) h

section
variable {P : Program}
theorem bw_call {f : FuncId} {args : Array Value} {w : World} {x : BW w} {v : Value} (h : Calls P f args x.val fun e w' => e = .returned v ∧ Below x.val.heap.size x.val w') :
    Calls P f args x.val fun e w'' => e = .returned v ∧ ∃ y : BW w, w'' = y.val :=
  h.mono fun _ w' ⟨he, hb⟩ => ⟨he, ⟨w', x.prop.trans (hb.mono x.prop.size)⟩, rfl⟩
theorem bw_same {f : FuncId} {args : Array Value} {w : World} {x : BW w} {v : Value} (h : Calls P f args x.val fun e w' => e = .returned v ∧ x.val = w') :
    Calls P f args x.val fun e w'' => e = .returned v ∧ ∃ y : BW w, w'' = y.val :=
  h.mono fun _ _ ⟨he, hb⟩ => ⟨he, x, hb.symm⟩
theorem wp_region_bw {id : Nat} {Q : Exit → Act → World → Prop} {a : Act} {w : World} {l : List Oper} (hm : P.follows .mixedOrders = true) (hB : Region.lexB .any l.toArray = true)
    (h : wpQuiet P l.toArray (fun w' => ∃ x : BW w, w' = x.val) (fun a' => ∀ w', (∃ x : BW w, w' = x.val) → Q .normal a' w') l a) : (Code.region id l.toArray true).wp P Q a w :=
  wp_region_quiet (C := fun w' => ∃ x : BW w, w' = x.val) hm hB ⟨⟨w.drew, (Below.refl _ _).drew⟩, rfl⟩ (by simpa using h)
end
end Go.Peri
namespace Go.Peri
open Go.RowKit

/-- It returns a value of which Q holds (closed to the walk's simp). -/
def Ret (Q : Value → World → Prop) (e : Ending) (w' : World) : Prop := ∃ v, e = .returned v ∧ Q v w'

/-- Of what was there only the blocks in S may have turned. -/
structure Only (S : List Nat) (w w' : World) : Prop where
  os : w'.os = w.os
  tape : w'.tape = w.tape
  output : w'.output = w.output
  size : w.heap.size ≤ w'.heap.size
  block : ∀ k, k < w.heap.size → k ∉ S → w'.heap[k]? = w.heap[k]?

theorem Only.refl (S : List Nat) (w : World) : Only S w w := ⟨rfl, rfl, rfl, Nat.le_refl _, fun _ _ _ => rfl⟩
theorem Only.trans {S : List Nat} {a b c : World} (h : Only S a b) (k : Only S b c) : Only S a c :=
  ⟨k.os.trans h.os, k.tape.trans h.tape, k.output.trans h.output, Nat.le_trans h.size k.size, fun i hi hs => (k.block i (Nat.lt_of_lt_of_le hi h.size) hs).trans (h.block i hi hs)⟩
theorem Only.mono {S S' : List Nat} {a b : World} (h : Only S a b) (hs : ∀ k, k ∈ S → k ∈ S') : Only S' a b :=
  ⟨h.os, h.tape, h.output, h.size, fun i hi hn => h.block i hi (fun hm => hn (hs i hm))⟩
theorem Only.drew {S : List Nat} {a w : World} (h : Only S a w) : Only S a w.drew := ⟨h.os, h.tape, h.output, h.size, h.block⟩
theorem Only.drewN {S : List Nat} {a w : World} (h : Only S a w) (n : Nat) : Only S a (w.drewN n) := ⟨h.os, h.tape, h.output, h.size, h.block⟩
theorem Only.alloc {S : List Nat} {a w : World} (h : Only S a w) (o : Obj) : Only S a (w.alloc o) :=
  h.trans ⟨rfl, rfl, rfl, by simp, fun k hk _ => Below.heap_alloc _ _ _ hk⟩
theorem Only.setCell {S : List Nat} {a w : World} (h : Only S a w) {p : Addr} (hp : p.block ∈ S) (u : Value) : Only S a (w.setCell p u) :=
  h.trans ⟨rfl, rfl, rfl, by simp [World.setCell], fun k _ hk => Below.heap_setCell _ _ _ _ (fun e => hk (e ▸ hp))⟩
theorem Only.setNew {S : List Nat} {a w : World} (h : Only S a w) {p : Addr} (hp : a.heap.size ≤ p.block) (u : Value) : Only S a (w.setCell p u) :=
  ⟨h.os, h.tape, h.output, by simpa [World.setCell] using h.size, fun k hk hs => (Below.heap_setCell _ _ _ _ (by omega)).trans (h.block k hk hs)⟩
theorem Only.of_below {S : List Nat} {a b : World} (h : Below a.heap.size a b) : Only S a b := ⟨h.os, h.tape, h.output, h.size, fun k hk _ => h.block k hk⟩
theorem Only.below {S : List Nat} {a b : World} (h : Only S a b) {B : Nat} (hB : B ≤ a.heap.size) (hs : ∀ k, k ∈ S → B ≤ k) : Below B a b :=
  ⟨h.os, h.tape, h.output, h.size, fun k hk => h.block k (by omega) (fun hm => by have := hs k hm; omega)⟩
theorem Only.nil {a b : World} (h : Only [] a b) : Below a.heap.size a b := h.below (Nat.le_refl _) (by simp)
theorem Only.cell {S : List Nat} {a b : World} (h : Only S a b) {p : Addr} (hp : p.block < a.heap.size) (hn : p.block ∉ S) : b.cell? p = a.cell? p := World.cell?_of_block (h.block _ hp hn)
theorem Only.frozen {S : List Nat} {a b : World} (h : Only S a b) {p : Addr} (hp : p.block < a.heap.size) (hn : p.block ∉ S) : b.frozen? p = a.frozen? p := World.frozen?_of_block (h.block _ hp hn)

/-- A slice value that reads as a list of one-cell values; p says of its block what is known. -/
def Vals (p : Nat → Prop) (w : World) (v : Value) (xs : List Value) : Prop :=
  ∃ a cap, v = .slice a xs.length cap ∧ xs.length ≤ cap ∧ cap ≤ maxLen ∧ (a = none → cap = 0) ∧
    (xs = [] ∨ ∃ b off, a = some ⟨b, off, none⟩ ∧ p b ∧ ∀ i, i < xs.length → w.cell? ⟨b, off + i, none⟩ = some (xs.getD i undef))
theorem Vals.of_is {B : Nat} {w : World} {v : Value} {xs : List Value} (h : IsVals B w v xs) : Vals (· < B) w v xs := h
theorem Vals.imp {p q : Nat → Prop} {w : World} {v : Value} {xs : List Value} (h : Vals p w v xs) (hpq : ∀ b, p b → q b) : Vals q w v xs := by
  obtain ⟨a, cap, h1, h2, h3, h4, h5⟩ := h
  exact ⟨a, cap, h1, h2, h3, h4, h5.imp id fun ⟨b, off, g1, g2, g3⟩ => ⟨b, off, g1, hpq b g2, g3⟩⟩
theorem Vals.only {p : Nat → Prop} {S : List Nat} {w w' : World} {v : Value} {xs : List Value} (h : Vals p w v xs) (ho : Only S w w') (hp : ∀ b, p b → b < w.heap.size ∧ b ∉ S) : Vals p w' v xs := by
  obtain ⟨a, cap, h1, h2, h3, h4, h5⟩ := h
  exact ⟨a, cap, h1, h2, h3, h4, h5.imp id fun ⟨b, off, g1, g2, g3⟩ => ⟨b, off, g1, g2, fun i hi => (ho.cell (p := ⟨b, off + i, none⟩) (hp b g2).1 (hp b g2).2).trans (g3 i hi)⟩⟩
theorem Vals.below {p : Nat → Prop} {B : Nat} {w w' : World} {v : Value} {xs : List Value} (h : Vals p w v xs) (ho : Below B w w') (hp : ∀ b, p b → b < B) : Vals p w' v xs := by
  obtain ⟨a, cap, h1, h2, h3, h4, h5⟩ := h
  exact ⟨a, cap, h1, h2, h3, h4, h5.imp id fun ⟨b, off, g1, g2, g3⟩ => ⟨b, off, g1, g2, fun i hi => (ho.cell (p := ⟨b, off + i, none⟩) (hp b g2)).trans (g3 i hi)⟩⟩
theorem Vals.lt {p : Nat → Prop} {w : World} {v : Value} {xs : List Value} (h : Vals p w v xs) : Vals (fun b => p b ∧ b < w.heap.size) w v xs := by
  obtain ⟨a, cap, h1, h2, h3, h4, h5⟩ := h
  refine ⟨a, cap, h1, h2, h3, h4, ?_⟩
  by_cases hn : xs = []
  · exact .inl hn
  · rcases h5 with h5 | ⟨b, off, g1, g2, g3⟩
    · exact .inl h5
    · refine .inr ⟨b, off, g1, ⟨g2, ?_⟩, g3⟩
      have hl : 0 < xs.length := List.length_pos_iff.2 hn
      have := g3 0 hl
      have h9 := World.cells?_block (w := w) (base := 0) (a := ⟨b, off + 0, none⟩) (n := 1) (cs := [xs.getD 0 undef]) (ChangeShapes.cells?_one (Nat.zero_le _) this) (by omega)
      exact h9
theorem Vals.cells {p : Nat → Prop} {w w' : World} {v : Value} {xs : List Value} (h : Vals p w v xs) (hc : ∀ b o, p b → w'.cell? ⟨b, o, none⟩ = w.cell? ⟨b, o, none⟩) : Vals p w' v xs := by
  obtain ⟨a, cap, h1, h2, h3, h4, h5⟩ := h
  exact ⟨a, cap, h1, h2, h3, h4, h5.imp id fun ⟨b, off, g1, g2, g3⟩ => ⟨b, off, g1, g2, fun i hi => (hc b _ g2).trans (g3 i hi)⟩⟩
theorem Vals.nil (p : Nat → Prop) (w : World) : Vals p w (.slice none 0 0) [] := ⟨none, 0, rfl, Nat.le_refl _, Nat.zero_le _, fun _ => rfl, .inl rfl⟩

/-- A slice in new memory. -/
def NewVals (w : World) (xs : List Value) (v : Value) (w' : World) : Prop := Below w.heap.size w w' ∧ Vals (fun b => w.heap.size ≤ b ∧ b < w'.heap.size) w' v xs

/-- What append's laws leave, as a reading. -/
theorem Vals.of_owns {w : World} {base : Nat} {e : TypeId} {v : Value} {n : Nat} {xs : List Value} (h : w.ownsRow base e 1 v n xs) : Vals (fun b => base ≤ b ∧ b < w.heap.size) w v xs := by
  have hx := h
  obtain ⟨h1, h2⟩ := h
  rcases h2 with ⟨rfl, rfl⟩ | ⟨g, cap, cur, rfl, hg, hh, hn, hcap, hsz, htake⟩
  · simp at h1
    rw [h1]
    exact Vals.nil _ _
  · have hl : xs.length = n := by simpa using h1
    subst hl
    refine ⟨_, cap, rfl, hn, hcap, by simp, .inr ⟨g, 0, rfl, ⟨hg, ?_⟩, fun i hi => ?_⟩⟩
    · exact (Array.getElem?_eq_some_iff.1 hh).1
    · rw [Nat.zero_add, hx.cellAt i (by simpa using hi)]
      simp [List.getD, hi]

/-- A whole block of cells. -/
def Blk (w : World) (g : Nat) (cs : Array Value) (t : TypeId) : Prop := w.heap[g]? = some (.cells cs t (0, 0))
section
variable {w : World} {g : Nat} {cs : Array Value} {t : TypeId}
theorem Blk.cell (h : Blk w g cs t) (i : Nat) : w.cell? ⟨g, i, none⟩ = cs[i]? := by unfold Blk at h; simp [World.cell?, h]
theorem Blk.free (h : Blk w g cs t) (i : Nat) : w.frozen? ⟨g, i, none⟩ = false := by unfold Blk at h; simp [World.frozen?, h]
theorem Blk.lt (h : Blk w g cs t) : g < w.heap.size := (Array.getElem?_eq_some_iff.1 h).1
theorem Blk.drew (h : Blk w g cs t) : Blk w.drew g cs t := h
theorem Blk.drewN (h : Blk w g cs t) (n : Nat) : Blk (w.drewN n) g cs t := h
theorem Blk.alloc (h : Blk w g cs t) (o : Obj) : Blk (w.alloc o) g cs t := (Below.heap_alloc w o g h.lt).trans h
theorem Blk.new (w : World) (cs : Array Value) (t : TypeId) : Blk (w.alloc (.cells cs t)) w.heap.size cs t := (MapKept.heap_alloc w _).1
theorem Blk.new' (w : World) (cs : Array Value) (t : TypeId) {n : Nat} (hn : n = w.heap.size) : Blk (w.alloc (.cells cs t)) n cs t := by rw [hn]; exact Blk.new w cs t
theorem Blk.set (h : Blk w g cs t) (i : Nat) (v : Value) : Blk (w.setCell ⟨g, i, none⟩ v) g (cs.setIfInBounds i v) t := by
  unfold Blk at h ⊢
  simp only [World.setCell, Array.getElem?_modify]
  rw [if_pos trivial, h]
  rfl
theorem Blk.other (h : Blk w g cs t) {p : Addr} (hp : g ≠ p.block) (v : Value) : Blk (w.setCell p v) g cs t := (Below.heap_setCell w p v g hp).trans h
theorem Blk.only {S : List Nat} {w' : World} (h : Blk w g cs t) (ho : Only S w w') (hs : g ∉ S) : Blk w' g cs t := (ho.block g h.lt hs).trans h
theorem Blk.below {B : Nat} {w' : World} (h : Blk w g cs t) (hb : Below B w w') (hs : g < B) : Blk w' g cs t := (hb.block g hs).trans h
theorem Blk.later {w' : World} (h : Blk w g cs t) (hb : Below w.heap.size w w') : Blk w' g cs t := (hb.block g h.lt).trans h
theorem Blk.vals {xs : List Value} (h : Blk w g xs.toArray t) (hm : xs.length ≤ maxLen) : Vals (· = g) w (.slice (some ⟨g, 0, none⟩) xs.length xs.length) xs :=
  ⟨_, _, rfl, Nat.le_refl _, hm, by simp, .inr ⟨g, 0, rfl, rfl, fun i hi => by rw [Nat.zero_add, h.cell]; simp [hi]⟩⟩
end
end Go.Peri
namespace Go.Peri
open Go.RowKit
/-- An element type's row of the table. -/
structure Elem (P : Program) (t e : TypeId) (size bytes : Nat) : Prop where
  under : P.underlying t = some (.slice e)
  info : ∃ i z, P.info? e = some i ∧ i.zero = some z ∧ i.size = size ∧ i.bytes = bytes ∧ z.cells.size = size
  pos : 0 < size
theorem Elem.mk' {P : Program} {t e : TypeId} {size bytes : Nat} {z : Value} (under : P.underlying t = some (.slice e)) (h : (P.info? e).map (fun i => (i.zero, i.size, i.bytes)) = some (some z, size, bytes)) (hz : z.cells.size = size) (pos : 0 < size) : Elem P t e size bytes := by
  obtain ⟨i, hi, h1, h2, h3⟩ := info_parts h
  exact ⟨under, ⟨i, z, hi, h1, h2, h3, hz⟩, pos⟩

section
variable {P : Program}
/-- 'out = append(out, x)' where x has just been laid in a block of its own. -/
theorem wpList_push {t e : TypeId} {size bytes : Nat} (E : Elem P t e size bytes) {ops : Array Oper} {rest : List Oper} {o : Oper} {a : Act} {Q : Exit → Act → World → Prop} {w w0 : World} (hgd : o.guard = none) (s x : Operand)
    (ho : o.op = .call { callee := .builtin .append, args := #[s, x], argTypes := #[t, t] }) (base : Nat) (v : Value) (n : Nat) (xs news : List Value) (hs : a.eval s = v) (hown : w0.ownsRow base e size v n xs) {T : TypeId}
    (hw : w = w0.alloc (.cells news.toArray T)) (hx : a.eval x = .slice (some ⟨w0.heap.size, 0, none⟩) 1 1) (hl : news.length = size) (h1 : ∀ u ∈ news, u.oneCell' = true)
    (h63 : n + 1 ≤ maxLen) (hbytes : (n + 1) * bytes ≤ 140737488355328) (hbase : base ≤ w0.heap.size)
    (h : ∀ v' w', w'.ownsRow base e size v' (n + 1) (xs ++ news) → Below base w0 w' → wpList P ops Q rest (a.put o.dst v') w') : wpList P ops Q (o :: rest) a w := by
  subst hw
  obtain ⟨i, z, hi, hz, hsz, hby, hzs⟩ := E.info
  refine wpList_append_own (w0.alloc (.cells news.toArray T)) hgd s x t ho base e i z size bytes E.under hi hz hsz hby hzs E.pos v n xs hs (hown.alloc _) ⟨w0.heap.size, 0, none⟩ 1 1 news hx (by omega) ?_ h1 h63 hbytes (by simp; omega) ?_
  · intro j u hj
    have e1 : (⟨w0.heap.size, 0, none⟩ : Addr).add j = ⟨w0.heap.size, j, none⟩ := by
      unfold Addr.add; split
      · rename_i hz; rw [hz]
      · simp
    rw [e1, World.cell?_alloc_new]
    simpa using hj
  · intro v' w' hown' hgrow _
    refine h v' w' hown' ?_
    refine ((Below.refl base w0).alloc (by omega) _).grown hgrow (by simp; omega) ?_
    intro k hk
    exact (hown.lt k hk).1
/-- .. inside a region that draws its order. -/
theorem step_push {t e : TypeId} {size bytes : Nat} (E : Elem P t e size bytes) {ops : Array Oper} {o : Oper} {a : Act} {Q : Exit → Act → World → Prop} {K : Act → World → Prop} {X : Prop} {w w0 : World} (hgd : o.guard = none) (s x : Operand)
    (ho : o.op = .call { callee := .builtin .append, args := #[s, x], argTypes := #[t, t] }) (base : Nat) (v : Value) (n : Nat) (xs news : List Value) (hs : a.eval s = v) (hown : w0.ownsRow base e size v n xs) {T : TypeId}
    (hw : w = w0.alloc (.cells news.toArray T)) (hx : a.eval x = .slice (some ⟨w0.heap.size, 0, none⟩) 1 1) (hl : news.length = size) (h1 : ∀ u ∈ news, u.oneCell' = true)
    (h63 : n + 1 ≤ maxLen) (hbytes : (n + 1) * bytes ≤ 140737488355328) (hbase : base ≤ w0.heap.size)
    (h : ∀ v' w', w'.ownsRow base e size v' (n + 1) (xs ++ news) → Below base w0 w' → K (a.put o.dst v') w') :
    if Region.wanted o (yielded ops a.tmps) = true then Oper.wp P o a w K Q else X := by
  have hwant : Region.wanted o (yielded ops a.tmps) = true := by simp [Region.wanted, hgd]
  rw [if_pos hwant]
  subst hw
  obtain ⟨i, z, hi, hz, hsz, hby, hzs⟩ := E.info
  refine wp_append_own (w0.alloc (.cells news.toArray T)) s x t ho base e i z size bytes E.under hi hz hsz hby hzs E.pos v n xs hs (hown.alloc _) ⟨w0.heap.size, 0, none⟩ 1 1 news hx (by omega) ?_ h1 h63 hbytes (by simp; omega) ?_
  · intro j u hj
    have e1 : (⟨w0.heap.size, 0, none⟩ : Addr).add j = ⟨w0.heap.size, j, none⟩ := by
      unfold Addr.add; split
      · rename_i hz; rw [hz]
      · simp
    rw [e1, World.cell?_alloc_new]
    simpa using hj
  · intro v' w' hown' hgrow _
    refine h v' w' hown' ?_
    refine ((Below.refl base w0).alloc (by omega) _).grown hgrow (by simp; omega) ?_
    intro k hk
    exact (hown.lt k hk).1
/-- The same where nothing is appended, or a whole slice: 'append(out, ys...)'. -/
theorem wpList_pushes {t e : TypeId} {size bytes : Nat} (E : Elem P t e size bytes) {ops : Array Oper} {rest : List Oper} {o : Oper} {a : Act} {Q : Exit → Act → World → Prop} {w : World} (hgd : o.guard = none) (s x : Operand)
    (ho : o.op = .call { callee := .builtin .append, args := #[s, x], argTypes := #[t, t] }) (base : Nat) (v : Value) (n : Nat) (xs news : List Value) (hs : a.eval s = v) (hown : w.ownsRow base e size v n xs)
    (ad : Addr) (m c : Nat) (hx : a.eval x = .slice (some ad) m c) (hl : news.length = m * size) (hnews : ∀ j u, news[j]? = some u → w.cell? (ad.add j) = some u) (h1 : ∀ u ∈ news, u.oneCell' = true)
    (h63 : n + m ≤ maxLen) (hbytes : (n + m) * bytes ≤ 140737488355328) (hbase : base ≤ w.heap.size)
    (h : ∀ v' w', w'.ownsRow base e size v' (n + m) (xs ++ news) → Below base w w' → wpList P ops Q rest (a.put o.dst v') w') : wpList P ops Q (o :: rest) a w := by
  obtain ⟨i, z, hi, hz, hsz, hby, hzs⟩ := E.info
  refine wpList_append_own w hgd s x t ho base e i z size bytes E.under hi hz hsz hby hzs E.pos v n xs hs hown ad m c news hx hl hnews h1 h63 hbytes hbase ?_
  intro v' w' hown' hgrow _
  refine h v' w' hown' ((Below.refl base w).grown hgrow hbase ?_)
  intro k hk
  exact (hown.lt k hk).1
/-- make([]T, n). -/
theorem run_make_n (t e : TypeId) {i : TypeInfo} {z : Value} (ht : P.underlying t = some (.slice e)) (hi : P.info? e = some i) (hz : i.zero = some z)
    (n : Nat) (hbytes : i.bytes * n ≤ 281474976710656) (h63 : n ≤ 9223372036854775807) (w : World) :
    (Instr.makeSlice t (.int .i64 (n : Int)) (.int .i64 (n : Int))).run P w = .ok (.slice (some ⟨w.heap.size, 0, none⟩) n n) (w.alloc (.cells (madeCells z.cells (n * i.size)) e)) := by
  have hb : (i.bytes : Int) * (n : Int) ≤ 281474976710656 := by
    have h : ((i.bytes * n : Nat) : Int) ≤ 281474976710656 := by omega
    rwa [Int.natCast_mul] at h
  have hr := run_make (P := P) w t e i z ht hi hz .i64 .i64 n n (by omega) (by omega) hb (by omega)
  simp only [Int.toNat_natCast] at hr
  exact hr
end
end Go.Peri

namespace Go.Peri
open Go.RowKit
/-- A slice value of n elements, 'size' cells each, that reads as the list of its cells. -/
def Cellz (p : Nat → Prop) (size : Nat) (w : World) (v : Value) (n : Nat) (xs : List Value) : Prop :=
  xs.length = n * size ∧ ∃ a cap, v = .slice a n cap ∧ n ≤ cap ∧ cap ≤ maxLen ∧ (a = none → cap = 0) ∧
    (n = 0 ∨ ∃ b off, a = some ⟨b, off, none⟩ ∧ p b ∧ ∀ i, i < xs.length → w.cell? ⟨b, off + i, none⟩ = some (xs.getD i undef))
theorem Vals.cellz {p : Nat → Prop} {w : World} {v : Value} {xs : List Value} (h : Vals p w v xs) : Cellz p 1 w v xs.length xs := by
  obtain ⟨a, cap, h1, h2, h3, h4, h5⟩ := h
  exact ⟨by omega, a, cap, h1, h2, h3, h4, h5.imp (fun e => by rw [e]; rfl) id⟩
theorem Cellz.vals {p : Nat → Prop} {w : World} {v : Value} {n : Nat} {xs : List Value} (h : Cellz p 1 w v n xs) : Vals p w v xs := by
  obtain ⟨h0, a, cap, h1, h2, h3, h4, h5⟩ := h
  obtain rfl : n = xs.length := by omega
  exact ⟨a, cap, h1, h2, h3, h4, h5.imp (fun e => List.length_eq_zero_iff.1 e) id⟩
theorem Cellz.imp {p q : Nat → Prop} {size n : Nat} {w : World} {v : Value} {xs : List Value} (h : Cellz p size w v n xs) (hpq : ∀ b, p b → q b) : Cellz q size w v n xs := by
  obtain ⟨h0, a, cap, h1, h2, h3, h4, h5⟩ := h
  exact ⟨h0, a, cap, h1, h2, h3, h4, h5.imp id fun ⟨b, off, g1, g2, g3⟩ => ⟨b, off, g1, hpq b g2, g3⟩⟩
theorem Cellz.only {p : Nat → Prop} {size n : Nat} {S : List Nat} {w w' : World} {v : Value} {xs : List Value} (h : Cellz p size w v n xs) (ho : Only S w w') (hp : ∀ b, p b → b < w.heap.size ∧ b ∉ S) : Cellz p size w' v n xs := by
  obtain ⟨h0, a, cap, h1, h2, h3, h4, h5⟩ := h
  exact ⟨h0, a, cap, h1, h2, h3, h4, h5.imp id fun ⟨b, off, g1, g2, g3⟩ => ⟨b, off, g1, g2, fun i hi => (ho.cell (p := ⟨b, off + i, none⟩) (hp b g2).1 (hp b g2).2).trans (g3 i hi)⟩⟩
theorem Cellz.below {p : Nat → Prop} {size n B : Nat} {w w' : World} {v : Value} {xs : List Value} (h : Cellz p size w v n xs) (ho : Below B w w') (hp : ∀ b, p b → b < B) : Cellz p size w' v n xs := by
  obtain ⟨h0, a, cap, h1, h2, h3, h4, h5⟩ := h
  exact ⟨h0, a, cap, h1, h2, h3, h4, h5.imp id fun ⟨b, off, g1, g2, g3⟩ => ⟨b, off, g1, g2, fun i hi => (ho.cell (p := ⟨b, off + i, none⟩) (hp b g2)).trans (g3 i hi)⟩⟩
theorem Cellz.nil (p : Nat → Prop) (size : Nat) (w : World) : Cellz p size w (.slice none 0 0) 0 [] := ⟨by simp, none, 0, rfl, Nat.le_refl _, Nat.zero_le _, fun _ => rfl, .inl rfl⟩
theorem Cellz.lt {p : Nat → Prop} {size n : Nat} {w : World} {v : Value} {xs : List Value} (h : Cellz p size w v n xs) (hs : 0 < size) : Cellz (fun b => p b ∧ b < w.heap.size) size w v n xs := by
  obtain ⟨h0, a, cap, h1, h2, h3, h4, h5⟩ := h
  refine ⟨h0, a, cap, h1, h2, h3, h4, ?_⟩
  by_cases hn : n = 0
  · exact .inl hn
  · obtain ⟨b, off, g1, g2, g3⟩ := h5.resolve_left hn
    refine .inr ⟨b, off, g1, ⟨g2, ?_⟩, g3⟩
    have hl : 0 < xs.length := by rw [h0]; exact Nat.mul_pos (by omega) hs
    exact World.cells?_block (w := w) (base := 0) (a := ⟨b, off + 0, none⟩) (n := 1) (cs := [xs.getD 0 undef]) (ChangeShapes.cells?_one (Nat.zero_le _) (g3 0 hl)) (by omega)
theorem Cellz.of_owns {w : World} {base : Nat} {e : TypeId} {size : Nat} {v : Value} {n : Nat} {xs : List Value} (h : w.ownsRow base e size v n xs) : Cellz (fun b => base ≤ b ∧ b < w.heap.size) size w v n xs := by
  have hx := h
  obtain ⟨h1, h2⟩ := h
  refine ⟨h1, ?_⟩
  rcases h2 with ⟨rfl, rfl⟩ | ⟨g, cap, cur, rfl, hg, hh, hn, hcap, hsz, htake⟩
  · exact ⟨_, _, rfl, Nat.le_refl _, Nat.zero_le _, fun _ => rfl, .inl rfl⟩
  · refine ⟨_, cap, rfl, hn, hcap, by simp, .inr ⟨g, 0, rfl, ⟨hg, (Array.getElem?_eq_some_iff.1 hh).1⟩, fun i hi => ?_⟩⟩
    rw [Nat.zero_add, hx.cellAt i (by rw [← h1]; exact hi)]
    simp [List.getD, hi]

/-- 'out = append(out, ys...)'. -/
theorem wpList_pushCells {P : Program} {t e : TypeId} {size bytes : Nat} (E : Elem P t e size bytes) {ops : Array Oper} {rest : List Oper} {o : Oper} {a : Act} {Q : Exit → Act → World → Prop} {w : World} (hgd : o.guard = none) (s x : Operand)
    (ho : o.op = .call { callee := .builtin .append, args := #[s, x], argTypes := #[t, t] }) (base : Nat) (v : Value) (n : Nat) (xs : List Value) (hs : a.eval s = v) (hown : w.ownsRow base e size v n xs)
    {p : Nat → Prop} {m : Nat} {vx : Value} {news : List Value} (hx : a.eval x = vx) (hv : Cellz p size w vx m news) (h1 : ∀ u ∈ news, u.oneCell' = true)
    (h63 : n + m ≤ maxLen) (hbytes : (n + m) * bytes ≤ 140737488355328) (hbase : base ≤ w.heap.size)
    (h : ∀ v' w', w'.ownsRow base e size v' (n + m) (xs ++ news) → Below base w w' → wpList P ops Q rest (a.put o.dst v') w') : wpList P ops Q (o :: rest) a w := by
  obtain ⟨hl, ad, cap, rfl, hmc, hcm, hnone, hcell⟩ := hv
  obtain ⟨i, z, hi, hz, hsz, hby, hzs⟩ := E.info
  cases ad with
  | none =>
    have : cap = 0 := hnone rfl
    obtain rfl : m = 0 := by omega
    subst this
    have hn : news = [] := List.length_eq_zero_iff.1 (by simpa using hl)
    subst hn
    refine wpList_append_own_none hgd s x t ho base e i size E.under hi v n xs hs hown hx ?_
    have := h v w (by simpa using hown) (Below.refl _ _)
    exact this
  | some ad =>
    refine wpList_pushes E hgd s x ho base v n xs news hs hown ad m cap hx hl ?_ h1 h63 hbytes hbase h
    intro j u hj
    have hj' := (List.getElem?_eq_some_iff.1 hj).1
    have hm : m ≠ 0 := by rintro rfl; rw [hl] at hj'; simp at hj'
    obtain ⟨b, off, g1, _, g3⟩ := hcell.resolve_left hm
    cases g1
    have e1 : (⟨b, off, none⟩ : Addr).add j = ⟨b, off + j, none⟩ := by
      unfold Addr.add; split
      · rename_i hz; rw [hz]; rfl
      · rfl
    rw [e1, g3 j hj']
    rw [List.getD, hj]
    rfl
end Go.Peri
namespace Go.Peri
open Go.RowKit
section
variable {α : Type}
/-- A slice that reads as a list of elements, k cells each; p says of its block what is known. -/
def RowsOf (p : Nat → Prop) (enc : α → List Value) (k : Nat) (w : World) (v : Value) (l : List α) : Prop :=
  ∃ a cap, v = .slice a l.length cap ∧ l.length ≤ cap ∧ cap ≤ maxLen ∧ (a = none → cap = 0) ∧
    (l = [] ∨ ∃ b off, a = some ⟨b, off, none⟩ ∧ p b ∧ ∀ i (hi : i < l.length) j u, (enc l[i])[j]? = some u → w.cell? ⟨b, off + i * k + j, none⟩ = some u)
theorem RowsOf.imp {p q : Nat → Prop} {enc : α → List Value} {k : Nat} {w : World} {v : Value} {l : List α} (h : RowsOf p enc k w v l) (hpq : ∀ b, p b → q b) : RowsOf q enc k w v l := by
  obtain ⟨a, cap, h1, h2, h3, h4, h5⟩ := h
  exact ⟨a, cap, h1, h2, h3, h4, h5.imp id fun ⟨b, off, g1, g2, g3⟩ => ⟨b, off, g1, hpq b g2, g3⟩⟩
theorem RowsOf.cells {p : Nat → Prop} {enc : α → List Value} {k : Nat} {w w' : World} {v : Value} {l : List α} (h : RowsOf p enc k w v l) (hc : ∀ b o, p b → w'.cell? ⟨b, o, none⟩ = w.cell? ⟨b, o, none⟩) : RowsOf p enc k w' v l := by
  obtain ⟨a, cap, h1, h2, h3, h4, h5⟩ := h
  exact ⟨a, cap, h1, h2, h3, h4, h5.imp id fun ⟨b, off, g1, g2, g3⟩ => ⟨b, off, g1, g2, fun i hi j u hu => (hc b _ g2).trans (g3 i hi j u hu)⟩⟩
theorem RowsOf.below {p : Nat → Prop} {enc : α → List Value} {k B : Nat} {w w' : World} {v : Value} {l : List α} (h : RowsOf p enc k w v l) (ho : Below B w w') (hp : ∀ b, p b → b < B) : RowsOf p enc k w' v l :=
  h.cells fun b o hb => ho.cell (p := ⟨b, o, none⟩) (hp b hb)
theorem RowsOf.only {p : Nat → Prop} {enc : α → List Value} {k : Nat} {S : List Nat} {w w' : World} {v : Value} {l : List α} (h : RowsOf p enc k w v l) (ho : Only S w w') (hp : ∀ b, p b → b < w.heap.size ∧ b ∉ S) : RowsOf p enc k w' v l :=
  h.cells fun b o hb => ho.cell (p := ⟨b, o, none⟩) (hp b hb).1 (hp b hb).2
theorem RowsOf.nil (p : Nat → Prop) (enc : α → List Value) (k : Nat) (w : World) : RowsOf p enc k w (.slice none 0 0) [] := ⟨none, 0, rfl, Nat.le_refl _, Nat.zero_le _, fun _ => rfl, .inl rfl⟩
theorem flat_length {enc : α → List Value} {k : Nat} (hk : ∀ x, (enc x).length = k) : ∀ l : List α, (l.flatMap enc).length = l.length * k
  | [] => by simp
  | x :: l => by rw [List.flatMap_cons, List.length_append, hk, flat_length hk l, List.length_cons, Nat.succ_mul, Nat.add_comm]
theorem flat_get {enc : α → List Value} {k : Nat} (hk : ∀ x, (enc x).length = k) : ∀ (l : List α) (i : Nat) (hi : i < l.length) (j : Nat), j < k → (l.flatMap enc)[i * k + j]? = (enc l[i])[j]?
  | x :: l, 0, _, j, hj => by rw [List.flatMap_cons, Nat.zero_mul, Nat.zero_add, List.getElem?_append_left (by rw [hk]; exact hj)]; rfl
  | x :: l, i + 1, hi, j, hj => by
    rw [List.flatMap_cons, List.getElem?_append_right (by rw [hk, Nat.succ_mul]; omega), hk, show (i + 1) * k + j - k = i * k + j by rw [Nat.succ_mul]; omega]
    exact flat_get hk l i (by simpa using hi) j hj
theorem Cellz.rows {p : Nat → Prop} {enc : α → List Value} {k : Nat} (hk : ∀ x, (enc x).length = k) {w : World} {v : Value} {l : List α} (h : Cellz p k w v l.length (l.flatMap enc)) : RowsOf p enc k w v l := by
  obtain ⟨h0, a, cap, h1, h2, h3, h4, h5⟩ := h
  refine ⟨a, cap, h1, h2, h3, h4, h5.imp List.length_eq_zero_iff.1 ?_⟩
  rintro ⟨b, off, g1, g2, g3⟩
  refine ⟨b, off, g1, g2, fun i hi j u hu => ?_⟩
  have hj : j < k := by have := (List.getElem?_eq_some_iff.1 hu).1; rw [hk] at this; exact this
  have hlt : i * k + j < (l.flatMap enc).length := by
    rw [flat_length hk]
    calc i * k + j < i * k + k := by omega
      _ = (i + 1) * k := (Nat.succ_mul i k).symm
      _ ≤ l.length * k := Nat.mul_le_mul_right _ hi
  have e := flat_get hk l i hi j hj
  rw [hu] at e
  rw [Nat.add_assoc, g3 _ hlt, List.getD, e]
  rfl
theorem RowsOf.cellz {p : Nat → Prop} {enc : α → List Value} {k : Nat} (hk : ∀ x, (enc x).length = k) {w : World} {v : Value} {l : List α} (h : RowsOf p enc k w v l) : Cellz p k w v l.length (l.flatMap enc) := by
  obtain ⟨a, cap, h1, h2, h3, h4, h5⟩ := h
  refine ⟨flat_length hk l, a, cap, h1, h2, h3, h4, h5.imp (fun e => by rw [e]; rfl) ?_⟩
  rintro ⟨b, off, g1, g2, g3⟩
  refine ⟨b, off, g1, g2, fun n hn => ?_⟩
  rw [flat_length hk] at hn
  have hkp : 0 < k := by rcases Nat.eq_zero_or_pos k with e | e; · rw [e] at hn; simp at hn
                         · exact e
  have hi : n / k < l.length := Nat.div_lt_of_lt_mul (by rw [Nat.mul_comm]; exact hn)
  have hj : n % k < k := Nat.mod_lt _ hkp
  have e : n / k * k + n % k = n := by rw [Nat.mul_comm]; exact Nat.div_add_mod n k
  have e2 := flat_get hk l _ hi _ hj
  rw [e] at e2
  have hu : (enc l[n / k])[n % k]? = some ((enc l[n / k])[n % k]'(by rw [hk]; exact hj)) := List.getElem?_eq_getElem _
  have := g3 _ hi _ _ hu
  rw [Nat.add_assoc, e] at this
  rw [this, List.getD, e2, hu]
  rfl
theorem RowsOf.of_owns {enc : α → List Value} {k : Nat} (hk : ∀ x, (enc x).length = k) {w : World} {base : Nat} {e : TypeId} {v : Value} {l : List α} (h : w.ownsRow base e k v l.length (l.flatMap enc)) : RowsOf (fun b => base ≤ b ∧ b < w.heap.size) enc k w v l :=
  (Cellz.of_owns h).rows hk
theorem RowsOf.lt {p : Nat → Prop} {enc : α → List Value} {k : Nat} (hk : ∀ x, (enc x).length = k) (hs : 0 < k) {w : World} {v : Value} {l : List α} (h : RowsOf p enc k w v l) : RowsOf (fun b => p b ∧ b < w.heap.size) enc k w v l :=
  ((h.cellz hk).lt hs).rows hk

/-- The whole element, loaded. -/
theorem RowsOf.load (P : Program) {enc : α → List Value} {k : Nat} (hk : ∀ x, (enc x).length = k) {w : World} {b off : Nat} {l : List α}
    (g3 : ∀ i (hi : i < l.length) j u, (enc l[i])[j]? = some u → w.cell? ⟨b, off + i * k + j, none⟩ = some u) (i : Nat) (hi : i < l.length) :
    Sem.run P (loadCellsFrom ⟨b, off + i * k, none⟩ 0 k #[]) w = .ok (enc l[i]).toArray w :=
  by
  have := run_loadCells_list (P := P) (w := w) ⟨b, off + i * k, none⟩ (enc l[i]) (fun j u hj => by rw [Addr.add_lit]; exact g3 i hi j u hj)
  rw [hk] at this
  simpa [loadCells] using this

/-- What argument slices read as. -/
theorem rows_of_arg {w : World} {B by_ : Nat} {e : Ty} {enc : α → List Value} {wf : α → Prop} (hsz : ∀ x, (enc x).length = e.size)
    (hrd : ∀ cs, Rd w B e cs → ∃ x, cs = enc x ∧ wf x) {v : Value} (h : Arg w B (.slice by_ e) v) :
    ∃ l : List α, RowsOf (· < B) enc e.size w v l ∧ l.length * by_ ≤ 140737488351232 ∧ ∀ x ∈ l, wf x := by
  obtain ⟨a, len, cap, hv, h1, h2, h3, h4, xs, h5, h6, h7⟩ := h
  cases hv
  have hl : ∀ xs : List (List Value), (∀ x ∈ xs, x.length = e.size ∧ Rd w B e x) → ∃ l : List α, xs = l.map enc ∧ ∀ x ∈ l, wf x := by
    intro xs
    induction xs with
    | nil => exact fun _ => ⟨[], rfl, by simp⟩
    | cons x xs ih =>
      intro h
      obtain ⟨l, e1, hw⟩ := ih fun y hy => h y (by simp [hy])
      obtain ⟨y, e2, hy⟩ := hrd x (h x (by simp)).2
      exact ⟨y :: l, by rw [e1, e2]; rfl, by simpa using ⟨hy, hw⟩⟩
  obtain ⟨l, rfl, hw⟩ := hl xs h6
  rw [List.length_map] at h5
  subst h5
  refine ⟨l, ⟨a, cap, rfl, h1, h2, h4, h7.imp List.length_eq_zero_iff.1 ?_⟩, Nat.le_trans (Nat.mul_le_mul_right _ h1) h3, hw⟩
  rintro ⟨b, off, g1, g2, g3⟩
  refine ⟨b, off, g1, g2, fun i hi j u hu => ?_⟩
  have hj : j < e.size := by have := (List.getElem?_eq_some_iff.1 hu).1; rw [hsz] at this; exact this
  have := g3 i j hi hj
  rw [Nat.add_assoc, this]
  simp [hi, hu]
end
end Go.Peri
namespace Go.Peri
open Go.RowKit
/-- A header. -/
structure Hd where
  name : ByteArray
  value : ByteArray
namespace Hd
def enc (h : Hd) : List Value := [.string h.name, .string h.value]
theorem enc_length (h : Hd) : h.enc.length = 2 := rfl
instance : DecidableEq Hd := fun a b =>
  if h : a.name = b.name ∧ a.value = b.value then .isTrue (by obtain ⟨⟩ := a; obtain ⟨⟩ := b; simp_all) else .isFalse (by rintro rfl; simp at h)
def ty : Ty := .cons .str (.cons .str .nil)
structure Wf (h : Hd) : Prop where
  name : h.name.size ≤ 140737488351232
  value : h.value.size ≤ 140737488351232
theorem rd_str {w : World} {B : Nat} {cs : List Value} (h : Rd w B .str cs) : ∃ s : ByteArray, cs = [.string s] ∧ s.size ≤ 140737488351232 := by
  obtain ⟨s, rfl, _, h2⟩ := h
  exact ⟨s, rfl, h2⟩
theorem of_rd {w : World} {B : Nat} {cs : List Value} (h : Rd w B ty cs) : ∃ x : Hd, cs = x.enc ∧ Wf x := by
  obtain ⟨_, _, rfl, _, a1, h⟩ := h
  obtain ⟨_, _, rfl, _, a2, h⟩ := h
  obtain ⟨n, rfl, g1⟩ := rd_str a1
  obtain ⟨v, rfl, g2⟩ := rd_str a2
  have e1 : (_ : List Value) = [] := h
  subst e1
  exact ⟨⟨n, v⟩, rfl, ⟨g1, g2⟩⟩
theorem cells {y : Hd} {w : World} {b o : Nat} (h : ∀ j u, y.enc[j]? = some u → w.cell? ⟨b, o + j, none⟩ = some u) :
    w.cell? ⟨b, o, none⟩ = some (.string y.name) ∧ w.cell? ⟨b, o + 1, none⟩ = some (.string y.value) := ⟨h 0 _ rfl, h 1 _ rfl⟩
theorem one (l : List Hd) : ∀ u ∈ l.flatMap Hd.enc, u.oneCell' = true := by
  intro u hu
  obtain ⟨o, _, ho⟩ := List.mem_flatMap.1 hu
  simp only [Hd.enc, List.mem_cons, List.not_mem_nil, or_false] at ho
  rcases ho with rfl | rfl <;> rfl

/-- What may be. -/
def nameB (b : UInt8) : Bool := b == 45 || (48 ≤ b && b ≤ 57) || (97 ≤ b && b ≤ 122)
def valueB (b : UInt8) : Bool := 32 ≤ b && b ≤ 126
def nameOk (s : ByteArray) : Bool := decide (1 ≤ s.size) && decide (s.size ≤ 32) && s.data.toList.all nameB
def valueOk (s : ByteArray) : Bool := decide (s.size ≤ 64) && s.data.toList.all valueB && (decide (s.size = 0) || (s.data.toList.head? != some 32 && s.data.toList.getLast? != some 32))
/-- The first one that may not be. -/
def checkL : List Hd → Int
  | [] => 0
  | h :: l => if nameOk h.name = false then 7 else if valueOk h.value = false then 15 else checkL l
def checkR (l : List Hd) : Int := if 16 < l.length then 8 else checkL l
/-- The place of the first one of a name. -/
def ix (l : List Hd) (n : ByteArray) : Nat := l.findIdx (fun h => decide (h.name = n))
def allR (l : List Hd) (n : ByteArray) : List ByteArray := (l.filter (fun h => decide (h.name = n))).map Hd.value
def getR (l : List Hd) (n : ByteArray) : ByteArray × Bool := match allR l n with | [] => (ByteArray.empty, false) | v :: _ => (v, true)
def setR (l : List Hd) (n v : ByteArray) : List Hd :=
  if ix l n < l.length then l.take (ix l n) ++ ⟨n, v⟩ :: (l.drop (ix l n)).filter (fun h => !decide (h.name = n)) else l ++ [⟨n, v⟩]
def outR (l : List Hd) (ns : List ByteArray) : List Hd := l.filter (fun h => !ns.any (fun x => decide (x = h.name)))
end Hd
theorem heads_of_arg {w : World} {B : Nat} {v : Value} (h : Arg w B (.slice 32 Hd.ty) v) : ∃ l : List Hd, RowsOf (· < B) Hd.enc 2 w v l ∧ l.length * 32 ≤ 140737488351232 ∧ (∀ x ∈ l, x.Wf) := by
  obtain ⟨l, h1, h2, h3⟩ := rows_of_arg (enc := Hd.enc) (wf := Hd.Wf) (e := Hd.ty) (fun _ => rfl) (fun cs hc => Hd.of_rd hc) h
  exact ⟨l, h1, h2, h3⟩
theorem str_of_arg {w : World} {B : Nat} {v : Value} (h : Arg w B .str v) : ∃ s : ByteArray, v = .string s ∧ s.size ≤ 140737488351232 := by
  obtain ⟨s, e, _, h2⟩ := h
  cases e
  exact ⟨s, rfl, h2⟩
end Go.Peri
namespace Go.Peri
namespace Hd
theorem ix_le (l : List Hd) (n : ByteArray) : ix l n ≤ l.length := List.findIdx_le_length
theorem ix_snoc (p : List Hd) (h : Hd) (n : ByteArray) : ix (p ++ [h]) n = if ix p n < p.length then ix p n else if h.name = n then p.length else p.length + 1 := by
  unfold ix
  rw [List.findIdx_append]
  split
  · rfl
  · by_cases e : h.name = n <;> simp [List.findIdx_cons, e, Nat.add_comm]
/-- What stands of headers behind Set, of some first ones. -/
def setK (l : List Hd) (n v : ByteArray) : List Hd :=
  if ix l n < l.length then l.take (ix l n) ++ ⟨n, v⟩ :: (l.drop (ix l n)).filter (fun h => !decide (h.name = n)) else l
theorem setK_keep (p : List Hd) (h : Hd) (n v : ByteArray) (hn : h.name ≠ n) : setK (p ++ [h]) n v = setK p n v ++ [h] := by
  unfold setK
  by_cases hx : ix p n < p.length
  · have e : ix (p ++ [h]) n = ix p n := by rw [ix_snoc, if_pos hx]
    rw [e, if_pos hx, if_pos (by simp; omega), List.take_append_of_le_length (by omega), List.drop_append_of_le_length (by omega), List.filter_append]
    simp [hn]
  · have e : ix (p ++ [h]) n = p.length + 1 := by rw [ix_snoc, if_neg hx, if_neg hn]
    rw [e, if_neg hx, if_neg (by simp)]
theorem setK_skip (p : List Hd) (h : Hd) (n v : ByteArray) (hn : h.name = n) (hx : ix p n < p.length) : setK (p ++ [h]) n v = setK p n v := by
  unfold setK
  have e : ix (p ++ [h]) n = ix p n := by rw [ix_snoc, if_pos hx]
  rw [e, if_pos hx, if_pos (by simp; omega), List.take_append_of_le_length (by omega), List.drop_append_of_le_length (by omega), List.filter_append]
  simp [hn]
theorem setK_met (p : List Hd) (h : Hd) (n v : ByteArray) (hn : h.name = n) (hx : ¬ ix p n < p.length) : setK (p ++ [h]) n v = setK p n v ++ [⟨n, v⟩] := by
  unfold setK
  have e : ix (p ++ [h]) n = p.length := by rw [ix_snoc, if_neg hx, if_pos hn]
  rw [e, if_neg hx, if_pos (by simp)]
  simp [hn]
theorem setR_eq (l : List Hd) (n v : ByteArray) : setR l n v = if ix l n < l.length then setK l n v else setK l n v ++ [⟨n, v⟩] := by
  unfold setR setK
  split <;> rfl
theorem met_snoc (p : List Hd) (h : Hd) (n : ByteArray) : decide (ix (p ++ [h]) n < (p ++ [h]).length) = (decide (ix p n < p.length) || decide (h.name = n)) := by
  rw [ix_snoc]
  by_cases hx : ix p n < p.length
  · rw [if_pos hx]
    have : ix p n < p.length + 1 := by omega
    simp [hx, this]
  · rw [if_neg hx]
    by_cases e : h.name = n <;> simp [e, hx]
theorem before (l : List Hd) (n : ByteArray) : ∀ h ∈ l.take (ix l n), h.name ≠ n := by
  intro h hh
  obtain ⟨i, hi, rfl⟩ := List.getElem_of_mem hh
  rw [List.length_take] at hi
  rw [List.getElem_take]
  have := List.not_of_lt_findIdx (p := fun h : Hd => decide (h.name = n)) (xs := l) (i := i) (by unfold ix at hi; omega)
  simpa using this
theorem at_ix (l : List Hd) (n : ByteArray) (h : ix l n < l.length) : l[ix l n].name = n := by
  have := List.findIdx_getElem (w := h)
  exact of_decide_eq_true this
theorem allR_set (l : List Hd) (n v : ByteArray) : allR (setR l n v) n = [v] := by
  unfold allR setR
  split
  · rename_i hx
    rw [List.filter_append, List.filter_cons]
    have e1 : (l.take (ix l n)).filter (fun h => decide (h.name = n)) = [] := List.filter_eq_nil_iff.2 (fun h hh => by simpa using before l n h hh)
    have e2 : ((l.drop (ix l n)).filter (fun h => !decide (h.name = n))).filter (fun h => decide (h.name = n)) = [] := by
      rw [List.filter_filter]
      exact List.filter_eq_nil_iff.2 (fun h _ => by simp)
    rw [e1, e2]
    simp
  · rename_i hx
    have e1 : l.filter (fun h => decide (h.name = n)) = [] := by
      refine List.filter_eq_nil_iff.2 (fun h hh => ?_)
      have hl : ix l n = l.length := by have := ix_le l n; omega
      have := before l n h (by rw [hl, List.take_length]; exact hh)
      simpa using this
    rw [List.filter_append, e1]
    simp
theorem outR_one (l : List Hd) (n : ByteArray) : outR l [n] = l.filter (fun h => !decide (h.name = n)) := by
  unfold outR
  refine List.filter_congr fun h _ => ?_
  by_cases e : h.name = n
  · simp [e]
  · have e2 : ¬ n = h.name := fun h2 => e h2.symm
    simp [e, e2]
theorem out_set (l : List Hd) (n v : ByteArray) : outR (setR l n v) [n] = outR l [n] := by
  rw [outR_one, outR_one]
  unfold setR
  split
  · rename_i hx
    rw [List.filter_append, List.filter_cons]
    simp only [decide_true, Bool.not_true, Bool.false_eq_true, if_false]
    rw [List.filter_filter]
    conv => rhs; rw [← List.take_append_drop (ix l n) l, List.filter_append]
    simp
  · rw [List.filter_append]
    simp
theorem out_len (l : List Hd) (n v : ByteArray) : (outR (setR l n v) [n]).length + 1 = (setR l n v).length := by
  have h1 : (outR (setR l n v) [n]).length + (allR (setR l n v) n).length = (setR l n v).length := by
    rw [outR_one]
    unfold allR
    rw [List.length_map]
    generalize setR l n v = x
    induction x with
    | nil => rfl
    | cons h t ih => by_cases e : h.name = n <;> simp [e] at ih ⊢ <;> omega
  rw [allR_set] at h1
  exact h1
theorem get_out (l : List Hd) (n : ByteArray) : getR (outR l [n]) n = (ByteArray.empty, false) := by
  have : allR (outR l [n]) n = [] := by
    unfold allR
    rw [outR_one, List.filter_filter, List.map_eq_nil_iff]
    exact List.filter_eq_nil_iff.2 (fun h _ => by simp)
  unfold getR
  rw [this]
/-- The first ones may all be. -/
theorem checkL_skip (l : List Hd) : ∀ k, k ≤ l.length → (∀ j (_ : j < k) (hj : j < l.length), nameOk l[j].name = true ∧ valueOk l[j].value = true) → checkL l = checkL (l.drop k)
  | 0, _, _ => rfl
  | k + 1, hk, h => by
    rw [checkL_skip l k (by omega) (fun j hj hjl => h j (by omega) hjl)]
    have := h k (by omega) (by omega)
    rw [List.drop_eq_getElem_cons (by omega)]
    simp [checkL, this.1, this.2]
theorem checkL_name (l : List Hd) (k : Nat) (hk : k < l.length) (h : ∀ j (_ : j < k) (hj : j < l.length), nameOk l[j].name = true ∧ valueOk l[j].value = true) (h1 : nameOk l[k].name = false) : checkL l = 7 := by
  rw [checkL_skip l k (by omega) h, List.drop_eq_getElem_cons hk]
  simp [checkL, h1]
theorem checkL_value (l : List Hd) (k : Nat) (hk : k < l.length) (h : ∀ j (_ : j < k) (hj : j < l.length), nameOk l[j].name = true ∧ valueOk l[j].value = true) (h1 : nameOk l[k].name = true) (h2 : valueOk l[k].value = false) : checkL l = 15 := by
  rw [checkL_skip l k (by omega) h, List.drop_eq_getElem_cons hk]
  simp [checkL, h1, h2]
theorem checkL_ok (l : List Hd) (h : ∀ j (_ : j < l.length) (hj : j < l.length), nameOk l[j].name = true ∧ valueOk l[j].value = true) : checkL l = 0 := by
  rw [checkL_skip l l.length (Nat.le_refl _) h, List.drop_length]
  rfl
theorem all_snoc {p : UInt8 → Bool} {l : List UInt8} {k : Nat} (hk : k < l.length) (h : (l.take k).all p = true) (h1 : p l[k] = true) : (l.take (k + 1)).all p = true := by
  rw [List.take_succ_eq_append_getElem hk, List.all_append, h]
  simp [h1]
theorem all_hit {p : UInt8 → Bool} {l : List UInt8} {k : Nat} (hk : k < l.length) (h1 : p l[k] = false) : l.all p = false := by
  rw [List.all_eq_false]
  exact ⟨l[k], List.getElem_mem hk, by simpa using h1⟩
end Hd
end Go.Peri
