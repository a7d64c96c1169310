/- General lemmas for law rows: what arguments of plain types read as, and the step from a walk to a row. General lemmas on worlds: which blocks may have turned; slices that read as lists; whole blocks. No program in sight. Plain laws on the digits of a number: no program in sight. Walks of layer 1 (octet): numbers as bytes; no condition. Walks of layer 1 (octet): the number of bytes; no condition. Walks of layer 1 (octet): digits; no condition. Walks of layer 1 (octet): the number of digits; no condition. Walks of layer 1 (octet): numbers as bytes; no condition. Walks of layer 1 (octet): the document's answers; no condition. Walks of layer 1 (octet): the document's answers, more; no condition. Walks of layer 1 (octet): the fixed calls, and the laws that compare; no condition. Walk of layer 1 (octet): what comes back; no condition. -/
import Derived.WalkKit
import Derived.WalkSpells
import Derived.WalkLawsBesides
import Derived.Handy
import Derived.BigQuiet
import Derived.ProofKit
import Derived.OpenShut
import Derived.ShutString
import Derived.ChangeOld
import Derived.Below
import Derived.SizedLaws
import Derived.ChangeArms
import Derived.Deep.Slices
import Derived.StillTailTactics
import Derived.BigRegion
import Derived.Deep.RegionHeld3
import Derived.Laws.LoneSync
import Derived.Laws.AppendOwnNone
import Derived.Test.YtcohcanakicmpaaProg
import Derived.Laws.BitsAllLaws
import Derived.Laws.Bits64
import Derived.Laws.IdiomStrings
import Derived.Laws.Concat
namespace Go.Peri
open Go.RowKit Go.ChangeShapes Go.WideShapes Go.ChangeAt

theorem hid {p : Prop} (h : p) : Hid p := h
theorem ret_int {k : IntKind} {a b : Int} (h : a = b) : Ending.returned (.int k a) = .returned (.int k b) := by rw [h]
theorem ret_bool {a b : Bool} (h : a = b) : Ending.returned (.bool a) = .returned (.bool b) := by rw [h]

/-- Plain types. -/
inductive Ty where
  | int (k : IntKind)
  | bool
  | str
  | slice (bytes : Nat) (e : Ty)
  | nil
  | cons (a b : Ty)

def Ty.size : Ty → Nat
  | .nil => 0
  | .cons a b => a.size + b.size
  | _ => 1

def Ty.agg : Ty → Bool
  | .nil => true
  | .cons _ _ => true
  | _ => false

def Ty.fit (P : Program) : Ty → Sum TypeId (List (Nat × TypeId) × Nat) → Bool
  | .int k, .inl t => match P.underlying t with | some (.int k') => decide (k = k') | _ => false
  | .bool, .inl t => match P.underlying t with | some .bool => true | _ => false
  | .str, .inl t => match P.underlying t with | some .string => true | _ => false
  | .slice by_ e, .inl t => match P.underlying t with | some (.slice u) => e.fit P (.inl u) && decide (P.cellsOf u = e.size) && decide (P.bytesOf u = by_) && decide (1 ≤ e.size) | _ => false
  | .cons a b, .inl t => match P.underlying t with
    | some (.struct fs) => decide (P.cellsOf t = a.size + b.size) && (match fs.toList with | f :: l => decide (f.offset = 0) && decide (P.cellsOf f.type = a.size) && a.fit P (.inl f.type) && b.fit P (.inr (l.map (fun f => (f.offset, f.type)), a.size)) | [] => false)
    | some (.array n u) => decide (P.cellsOf t = a.size + b.size) && (match n with | n + 1 => decide (P.cellsOf u = a.size) && a.fit P (.inl u) && b.fit P (.inr ((List.range n).map (fun i => ((i + 1) * P.cellsOf u, u)), a.size)) | 0 => false)
    | _ => false
  | .nil, .inr (l, _) => l.isEmpty
  | .cons a b, .inr (l, off) => match l with | (o, u) :: l => decide (o = off) && decide (P.cellsOf u = a.size) && a.fit P (.inl u) && b.fit P (.inr (l, off + a.size)) | [] => false
  | _, _ => false

/-- What cells of a plain type hold: blocks of what is led to are below B. -/
def Rd (w : World) (B : Nat) : Ty → List Value → Prop
  | .int k, cs => ∃ n, cs = [.int k n] ∧ (Lit.int k n).wf = true
  | .bool, cs => ∃ b, cs = [.bool b]
  | .str, cs => ∃ s : ByteArray, cs = [.string s] ∧ s.size ≤ maxLen ∧ s.size ≤ 140737488351232
  | .slice by_ e, cs => ∃ a len cap, cs = [.slice a len cap] ∧ len ≤ cap ∧ cap ≤ maxLen ∧ cap * by_ ≤ 140737488351232 ∧ (a = none → cap = 0) ∧
      ∃ xs : List (List Value), xs.length = len ∧ (∀ x ∈ xs, x.length = e.size ∧ Rd w B e x) ∧
        (len = 0 ∨ ∃ b off, a = some ⟨b, off, none⟩ ∧ b < B ∧ ∀ i j, i < len → j < e.size → w.cell? ⟨b, off + (i * e.size + j), none⟩ = some ((xs.getD i []).getD j undef))
  | .nil, cs => cs = []
  | .cons a b, cs => ∃ c1 c2, cs = c1 ++ c2 ∧ c1.length = a.size ∧ Rd w B a c1 ∧ Rd w B b c2

theorem Rd.below {w w' : World} {B : Nat} (hb : Below B w w') : ∀ (ty : Ty) (cs : List Value), Rd w B ty cs → Rd w' B ty cs
  | .int _, _, h => h
  | .bool, _, h => h
  | .str, _, h => h
  | .nil, _, h => h
  | .cons a b, _, ⟨c1, c2, h1, h2, h3, h4⟩ => ⟨c1, c2, h1, h2, Rd.below hb a _ h3, Rd.below hb b _ h4⟩
  | .slice _ e, _, ⟨a, len, cap, h1, h2, h3, h4, h5, xs, h6, h7, h8⟩ =>
    ⟨a, len, cap, h1, h2, h3, h4, h5, xs, h6, fun x hx => ⟨(h7 x hx).1, Rd.below hb e x (h7 x hx).2⟩,
      h8.imp id fun ⟨b, off, g1, g2, g3⟩ => ⟨b, off, g1, g2, fun i j hi hj => (hb.cell (p := ⟨b, off + (i * e.size + j), none⟩) g2).trans (g3 i j hi hj)⟩⟩

section
variable {H : Type} {enc : TypeId × Value → H} {P : Program} {w : World}

theorem weights_mem_all {e : TypeId} : ∀ {ds : List (DataW H)} {i : Nat} {d : DataW H}, ds[i]? = some d → ∀ x ∈ d.weights P e, x ∈ DataW.weightsAll P e ds
  | [], i, d, h, _, _ => by simp at h
  | d' :: ds, 0, d, h, x, hx => by simp at h; subst h; simp [DataW.weightsAll, hx]
  | d' :: ds, i + 1, d, h, x, hx => by simp at h; simp [DataW.weightsAll, weights_mem_all h x hx]

/-- The weights of a datum are within the reach. -/
def Light (P : Program) (t : TypeId) (d : DataW H) : Prop := ∀ x ∈ d.weights P t, x ≤ reachBytes

theorem rd_of_trod : ∀ (ty : Ty) (y : Sum TypeId (List (Nat × TypeId) × Nat)), ty.fit P y = true →
    (∀ t fuel cs d ps, y = .inl t → DataW.trod enc P w 0 (fun _ => true) true fuel t cs = some (d, ps) → Light P t d → cs.length = ty.size ∧ Rd w w.heap.size ty cs) ∧
    (∀ (l : List (Nat × TypeId)) (off fuel : Nat) (cs : List Value), y = .inr (l, off) → (∀ (i o u : Nat), l[i]? = some (o, u) → ∃ d ps, DataW.trod enc P w 0 (fun _ => true) true fuel u ((cs.drop o).take (P.cellsOf u)) = some (d, ps) ∧ Light P u d) → cs.length = off + ty.size → Rd w w.heap.size ty (cs.drop off)) := by
  intro ty
  induction ty with
  | int k =>
    intro y hf
    match y, hf with
    | .inl t, hf =>
      simp only [Ty.fit] at hf
      split at hf
      · rename_i k' hu
        have hk := of_decide_eq_true hf
        subst hk
        refine ⟨fun t' fuel cs d ps e h _ => ?_, fun l off fuel cs e => (by cases e)⟩
        cases e
        obtain ⟨n, rfl, _, hw⟩ := DataW.trod_int hu h
        exact ⟨rfl, n, rfl, hw⟩
      · cases hf
    | .inr _, hf => simp [Ty.fit] at hf
  | bool =>
    intro y hf
    match y, hf with
    | .inl t, hf =>
      simp only [Ty.fit] at hf
      split at hf
      · rename_i hu
        refine ⟨fun t' fuel cs d ps e h _ => ?_, fun l off fuel cs e => (by cases e)⟩
        cases e
        obtain ⟨b, rfl, _⟩ := DataW.trod_bool hu h
        exact ⟨rfl, b, rfl⟩
      · cases hf
    | .inr _, hf => simp [Ty.fit] at hf
  | str =>
    intro y hf
    match y, hf with
    | .inl t, hf =>
      simp only [Ty.fit] at hf
      split at hf
      · rename_i hu
        refine ⟨fun t' fuel cs d ps e h hl => ?_, fun l off fuel cs e => (by cases e)⟩
        cases e
        obtain ⟨s, rfl, hx, hw⟩ := DataW.trod_string hu h
        obtain ⟨rfl, -⟩ := Prod.mk.inj hx
        have := hl s.size (by simp only [DataW.weights, List.mem_singleton]; rw [Array.length_toList]; rfl)
        exact ⟨rfl, s, rfl, hw, this⟩
      · cases hf
    | .inr _, hf => simp [Ty.fit] at hf
  | slice by_ e ih =>
    intro y hf
    match y, hf with
    | .inl t, hf =>
      simp only [Ty.fit] at hf
      split at hf
      · rename_i u hu
        simp only [Bool.and_eq_true, decide_eq_true_eq] at hf
        obtain ⟨⟨⟨hf1, hf2⟩, hf3⟩, hf4⟩ := hf
        have ih' := (ih (.inl u) hf1).1
        refine ⟨fun t' fuel cs d ps e h hl => ?_, fun l off fuel cs e => (by cases e)⟩
        cases e
        rcases Deep.open_slice hu h with ⟨rfl, _⟩ | ⟨a, len, cap, m, n, D, Pl, rfl, _, hlc, hcm, hm, hx, hel⟩
        · exact ⟨rfl, none, 0, 0, rfl, Nat.le_refl _, Nat.zero_le _, by omega, fun _ => rfl, [], rfl, by simp, .inl rfl⟩
        · simp only [if_true] at hm
          obtain rfl : cap = m := hm.symm
          obtain ⟨rfl, -⟩ := Prod.mk.inj hx
          have hwt : cap * by_ ≤ 140737488351232 := by
            have := hl ((len + (cap - len)) * by_) (by simp [DataW.weights, hu, hf3])
            rw [show len + (cap - len) = cap by omega] at this
            exact this
          have hin : ∀ i, i < len → ∃ cs', cs'.length = e.size ∧ (∀ j, j < e.size → w.cell? (a.add (i * e.size + j)) = cs'[j]?) ∧ Rd w w.heap.size e cs' := by
            intro i hi
            obtain ⟨cs', h1, h2⟩ := hel i (by omega)
            obtain ⟨_, h3, h4⟩ := World.cells?_some h1
            rw [hf2] at h3 h4
            have hlt : Light P u (D i) := by
              intro x hx
              refine hl x ?_
              simp only [DataW.weights, hu, List.mem_cons, List.mem_append]
              exact .inr (.inl (weights_mem_all (i := i) (by simp [hi]) x hx))
            exact ⟨cs', h3, fun j hj => by rw [← h4 j hj, Deep.add_add], (ih' u n cs' _ _ rfl h2 hlt).2⟩
          obtain ⟨F, hF⟩ := Deep.choose_lt hin
          refine ⟨rfl, some a, len, cap, rfl, hlc, hcm, hwt, by simp, (List.range len).map F, by simp, ?_, ?_⟩
          · intro x hx
            obtain ⟨i, hi, rfl⟩ := List.mem_map.1 hx
            have := hF i (List.mem_range.1 hi)
            exact ⟨this.1, this.2.2⟩
          · by_cases h0 : len = 0
            · exact .inl h0
            · right
              obtain ⟨b, off, spot⟩ := a
              have c0 := (hF 0 (by omega)).2.1 0 (by omega)
              have hl0 := (hF 0 (by omega)).1
              rw [List.getElem?_eq_getElem (by omega)] at c0
              have hs : spot = none := by simpa [Addr.add] using World.cell?_spot c0
              subst hs
              refine ⟨b, off, rfl, ?_, ?_⟩
              · have : (⟨b, off, none⟩ : Addr).block < w.heap.size := by
                  have h9 := (World.cells?_block (w := w) (base := 0) (a := ⟨b, off, none⟩) (n := 1) (cs := [(F 0)[0]'(by omega)]) (by
                    refine cells?_one (Nat.zero_le _) ?_
                    simpa [Addr.add] using c0) (by omega))
                  exact h9
                exact this
              · intro i j hi hj
                have := (hF i hi).2.1 j hj
                have hlen := (hF i hi).1
                have e1 : ((List.range len).map F).getD i [] = F i := by simp [List.getD, hi]
                rw [e1]
                have e2 : (⟨b, off, none⟩ : Addr).add (i * e.size + j) = ⟨b, off + (i * e.size + j), none⟩ := by
                  unfold Addr.add
                  split
                  · rename_i hz; rw [hz]; rfl
                  · rfl
                rw [e2] at this
                rw [this, List.getD, List.getElem?_eq_getElem (by omega)]
                rfl
      · cases hf
    | .inr _, hf => simp [Ty.fit] at hf
  | nil =>
    intro y hf
    match y, hf with
    | .inl t, hf => simp [Ty.fit] at hf
    | .inr (l, off), hf =>
      refine ⟨fun t' fuel cs d ps e => (by cases e), fun l off fuel cs e _ hlen => ?_⟩
      simp only [Rd]
      simp [Ty.size] at hlen
      simp [hlen]
  | cons a b iha ihb =>
    intro y hf
    match y, hf with
    | .inl t, hf =>
      refine ⟨fun t' fuel cs d ps e h hl => ?_, fun l off fuel cs e => (by cases e)⟩
      cases e
      simp only [Ty.fit] at hf
      split at hf
      · rename_i fs hu
        simp only [Bool.and_eq_true, decide_eq_true_eq] at hf
        obtain ⟨hsz, hf⟩ := hf
        split at hf
        · rename_i f l hfl
          simp only [Bool.and_eq_true, decide_eq_true_eq] at hf
          obtain ⟨⟨⟨ho, hc⟩, hfa⟩, hfb⟩ := hf
          obtain ⟨xs, n, _, hx, hlen, hxl, hel⟩ := DataW.trod_struct hu h
          obtain ⟨rfl, -⟩ := Prod.mk.inj hx
          have hlt : ∀ (i : Nat) (g : Field), fs[i]? = some g → ∃ d ps, DataW.trod enc P w 0 (fun _ => true) true n g.type ((cs.drop g.offset).take (P.cellsOf g.type)) = some (d, ps) ∧ Light P g.type d := by
            intro i g hg
            have hi : i < fs.size := (Array.getElem?_eq_some_iff.1 hg).1
            have h2 := hel i g hg
            rw [List.getElem?_eq_getElem (by omega)] at h2
            refine ⟨_, _, h2, ?_⟩
            intro x hx
            refine hl x ?_
            simp only [DataW.weights, hu]
            refine DataW.weights_mem_each (j := i) (t := g.type) (d := (xs[i]'(by omega)).1) ?_ ?_ x hx
            · rw [List.getElem?_map, Array.getElem?_toList, hg]; rfl
            · rw [List.getElem?_map, List.getElem?_eq_getElem (by omega)]; rfl
          refine ⟨by rw [hlen, hsz]; rfl, ?_⟩
          have hf0 : fs[0]? = some f := by rw [← Array.getElem?_toList, hfl]; rfl
          obtain ⟨d0, p0, h0, l0⟩ := hlt 0 f hf0
          rw [ho, hc, List.drop_zero] at h0
          obtain ⟨la, ra⟩ := (iha _ hfa).1 _ _ _ _ _ rfl h0 l0
          have rb := (ihb _ hfb).2 _ _ n cs rfl (fun i o u hi => by
            rw [List.getElem?_map] at hi
            obtain ⟨g, hg, e⟩ := Option.map_eq_some_iff.1 hi
            cases e
            exact hlt (i + 1) g (by rw [← Array.getElem?_toList, hfl]; simpa using hg)) (by rw [hlen, hsz])
          exact ⟨cs.take a.size, cs.drop a.size, (List.take_append_drop _ _).symm, la, ra, rb⟩
        · cases hf
      · rename_i n u hu
        simp only [Bool.and_eq_true, decide_eq_true_eq] at hf
        obtain ⟨hsz, hf⟩ := hf
        match n, hu, hf with
        | n + 1, hu, hf =>
          simp only [Bool.and_eq_true, decide_eq_true_eq] at hf
          obtain ⟨⟨hc, hfa⟩, hfb⟩ := hf
          obtain ⟨xs, m, _, hx, hlen, hxl, hel⟩ := DataW.trod_array hu h
          obtain ⟨rfl, -⟩ := Prod.mk.inj hx
          have hlt : ∀ i, i < n + 1 → ∃ d ps, DataW.trod enc P w 0 (fun _ => true) true m u ((cs.drop (i * P.cellsOf u)).take (P.cellsOf u)) = some (d, ps) ∧ Light P u d := by
            intro i hi
            have h2 := hel i hi
            rw [List.getElem?_eq_getElem (by omega)] at h2
            refine ⟨_, _, h2, ?_⟩
            intro x hx
            refine hl x ?_
            simp only [DataW.weights, hu]
            refine weights_mem_all (i := i) (d := (xs[i]'(by omega)).1) ?_ x hx
            rw [List.getElem?_map, List.getElem?_eq_getElem (by omega)]; rfl
          refine ⟨by rw [hlen, hsz]; rfl, ?_⟩
          obtain ⟨d0, p0, h0, l0⟩ := hlt 0 (by omega)
          rw [hc, Nat.zero_mul, List.drop_zero] at h0
          obtain ⟨la, ra⟩ := (iha _ hfa).1 _ _ _ _ _ rfl h0 l0
          have rb := (ihb _ hfb).2 _ _ m cs rfl (fun i o u' hi => by
            rw [List.getElem?_map] at hi
            obtain ⟨g, hg, e⟩ := Option.map_eq_some_iff.1 hi
            cases e
            have hg' : g = i ∧ i < n := by
              have := List.getElem?_eq_some_iff.1 hg
              obtain ⟨h1, h2⟩ := this
              simp at h1 h2
              omega
            rw [hg'.1]
            exact hlt (i + 1) (by omega)) (by rw [hlen, hsz])
          exact ⟨cs.take a.size, cs.drop a.size, (List.take_append_drop _ _).symm, la, ra, rb⟩
        | 0, hu, hf => cases hf
      · cases hf
    | .inr (l, off), hf =>
      refine ⟨fun t' fuel cs d ps e => (by cases e), fun l' off' fuel cs e hel hlen => ?_⟩
      cases e
      simp only [Ty.fit] at hf
      match l, hf, hel with
      | (o, u) :: l, hf, hel =>
        simp only [Bool.and_eq_true, decide_eq_true_eq] at hf
        obtain ⟨⟨⟨ho, hc⟩, hfa⟩, hfb⟩ := hf
        obtain ⟨d0, p0, h0, l0⟩ := hel 0 o u rfl
        rw [ho, hc] at h0
        obtain ⟨la, ra⟩ := (iha _ hfa).1 _ _ _ _ _ rfl h0 l0
        have rb := (ihb _ hfb).2 _ _ fuel cs rfl (fun i o' u' hi => hel (i + 1) o' u' (by simpa using hi)) (by simp [Ty.size] at hlen; omega)
        refine ⟨(cs.drop off).take a.size, (cs.drop off).drop a.size, (List.take_append_drop _ _).symm, la, ra, ?_⟩
        rw [List.drop_drop]
        exact rb
      | [], hf, _ => cases hf

/-- An argument's value. -/
def Arg (w : World) (B : Nat) : Ty → Value → Prop
  | .nil, v => ∃ cs, v = .agg cs ∧ Rd w B .nil cs.toList
  | .cons a b, v => ∃ cs, v = .agg cs ∧ Rd w B (.cons a b) cs.toList
  | ty, v => Rd w B ty [v]

def Args (w : World) (B : Nat) : List Ty → List Value → Prop
  | [], [] => True
  | ty :: tys, v :: vs => Arg w B ty v ∧ Args w B tys vs
  | _, _ => False

theorem args_one {B : Nat} {t0 : Ty} {args : Array Value} (h : Args w B [t0] args.toList) : ∃ v0, args = #[v0] ∧ Arg w B t0 v0 := by
  obtain ⟨l⟩ := args
  match l, h with
  | [v0], h => exact ⟨v0, rfl, h.1⟩
theorem args_two {B : Nat} {t0 t1 : Ty} {args : Array Value} (h : Args w B [t0, t1] args.toList) : ∃ v0 v1, args = #[v0, v1] ∧ Arg w B t0 v0 ∧ Arg w B t1 v1 := by
  obtain ⟨l⟩ := args
  match l, h with
  | [v0, v1], h => exact ⟨v0, v1, rfl, h.1, h.2.1⟩
theorem args_three {B : Nat} {t0 t1 t2 : Ty} {args : Array Value} (h : Args w B [t0, t1, t2] args.toList) : ∃ v0 v1 v2, args = #[v0, v1, v2] ∧ Arg w B t0 v0 ∧ Arg w B t1 v1 ∧ Arg w B t2 v2 := by
  obtain ⟨l⟩ := args
  match l, h with
  | [v0, v1, v2], h => exact ⟨v0, v1, v2, rfl, h.1, h.2.1, h.2.2.1⟩
theorem args_four {B : Nat} {t0 t1 t2 t3 : Ty} {args : Array Value} (h : Args w B [t0, t1, t2, t3] args.toList) : ∃ v0 v1 v2 v3, args = #[v0, v1, v2, v3] ∧ Arg w B t0 v0 ∧ Arg w B t1 v1 ∧ Arg w B t2 v2 ∧ Arg w B t3 v3 := by
  obtain ⟨l⟩ := args
  match l, h with
  | [v0, v1, v2, v3], h => exact ⟨v0, v1, v2, v3, rfl, h.1, h.2.1, h.2.2.1, h.2.2.2.1⟩

theorem arg_of_trod (ty : Ty) {r : Reach} {b : Nat} {t : TypeId} {v : Value} {d : DataW H} {ps : List MemPlace} (hf : ty.fit P (.inl t) = true) (hok : Value.okWide P w r b t v)
    (h : DataW.Trod enc P w 0 (fun _ => true) true t v d ps) (hl : Light P t d) : Arg w w.heap.size ty v := by
  obtain ⟨fuel, h⟩ := h
  have hr := ((rd_of_trod ty (.inl t) hf).1 t fuel _ d ps rfl h hl).2
  cases ty with
  | int k =>
    simp only [Ty.fit] at hf
    split at hf
    · rename_i hu; obtain ⟨n, rfl⟩ := okWide_int hu hok; exact hr
    · cases hf
  | bool =>
    simp only [Ty.fit] at hf
    split at hf
    · rename_i hu; obtain ⟨n, rfl⟩ := okWide_bool hu hok; exact hr
    · cases hf
  | str =>
    simp only [Ty.fit] at hf
    split at hf
    · rename_i hu; obtain ⟨n, rfl⟩ := okWide_string hu hok; exact hr
    · cases hf
  | slice by_ e =>
    simp only [Ty.fit] at hf
    split at hf
    · rename_i hu; obtain ⟨a, n, c, rfl⟩ := okWide_slice hu hok; exact hr
    · cases hf
  | nil => simp [Ty.fit] at hf
  | cons a b =>
    simp only [Ty.fit] at hf
    split at hf
    · rename_i fs hu
      obtain ⟨cs, rfl, _⟩ := okWide_struct hu hok
      exact ⟨cs, rfl, hr⟩
    · rename_i n u hu
      have : ∃ cs, v = .agg cs := by
        simp only [Value.okWide, hu] at hok
        obtain ⟨cs, h1, _⟩ := hok
        exact ⟨cs, h1⟩
      obtain ⟨cs, rfl⟩ := this
      exact ⟨cs, rfl, hr⟩
    · cases hf

def tysFit (P : Program) : List Ty → List TypeId → Bool
  | [], [] => true
  | ty :: tys, t :: ts => ty.fit P (.inl t) && P.readableRec t && decide (t < P.types.size) && tysFit P tys ts
  | _, _ => false

theorem args_of_trodAll {r : Reach} {b : Nat} : ∀ (tys : List Ty) (ts : List TypeId) (vs : List Value) (ds : List (DataW H)) (ps : List MemPlace), tysFit P tys ts = true →
    (∀ (j : Nat) t v, ts[j]? = some t → vs[j]? = some v → Value.okWide P w r b t v) → DataW.TrodAll enc P w 0 (fun _ => true) true ts vs ds ps →
    (∀ x ∈ DataW.weightsEach P ts ds, x ≤ reachBytes) → Args w w.heap.size tys vs ∧ ds.length = tys.length
  | [], [], vs, ds, ps, _, _, h, _ => by cases vs <;> cases ds <;> simp_all [DataW.TrodAll, Args]
  | ty :: tys, t :: ts, vs, ds, ps, hf, hok, h, hl => by
    obtain ⟨v, vs', d, ds', p, q, rfl, rfl, rfl, h0, h1⟩ := trodAll_cons h
    simp only [tysFit, Bool.and_eq_true, decide_eq_true_eq] at hf
    obtain ⟨⟨⟨hf0, _⟩, _⟩, hf1⟩ := hf
    have ih := args_of_trodAll (r := r) (b := b) tys ts vs' ds' q hf1 (fun j t' v' ht hv => hok (j + 1) t' v' (by simpa using ht) (by simpa using hv)) h1
      (fun x hx => hl x (by simp [DataW.weightsEach, hx]))
    exact ⟨⟨arg_of_trod ty hf0 (hok 0 t v rfl rfl) h0 (fun x hx => hl x (by simp [DataW.weightsEach, hx])), ih.1⟩, by simp [ih.2]⟩
  | [], _ :: _, _, _, _, hf, _, _, _ => by simp [tysFit] at hf
  | _ :: _, [], _, _, _, hf, _, _, _ => by simp [tysFit] at hf

theorem trodAll_below (laid : laidOutB P = true) {w' : World} (hb : Below w.heap.size w w') : ∀ (tys : List Ty) (ts : List TypeId) (vs : List Value) (ds : List (DataW H)) (ps : List MemPlace), tysFit P tys ts = true →
    DataW.TrodAll enc P w 0 (fun _ => true) true ts vs ds ps → (∀ x ∈ ps, x.block < w.heap.size) → DataW.TrodAll enc P w' 0 (fun b => decide (b < w.heap.size)) true ts vs ds ps
  | [], [], vs, ds, ps, _, h, _ => by cases vs <;> cases ds <;> simp_all [DataW.TrodAll]
  | ty :: tys, t :: ts, vs, ds, ps, hf, h, hlt => by
    obtain ⟨v, vs', d, ds', p, q, rfl, rfl, rfl, h0, h1⟩ := trodAll_cons h
    simp only [tysFit, Bool.and_eq_true, decide_eq_true_eq] at hf
    obtain ⟨⟨⟨_, hf2⟩, hf3⟩, hf1⟩ := hf
    exact trodAll_cons_mk (Below.trod laid hf2 hf3 h0 hb (fun x hx => hlt x (by simp [hx]))) (trodAll_below laid hb tys ts vs' ds' q hf1 h1 (fun x hx => hlt x (by simp [hx])))
  | [], _ :: _, _, _, _, hf, _, _ => by simp [tysFit] at hf
  | _ :: _, [], _, _, _, hf, _, _ => by simp [tysFit] at hf
end

/-- THE STEP FROM A WALK TO A ROW: a law that returns true and writes nothing that was there. -/
theorem law_lift {C : Checked} {os : Os} {f : FuncId} {fn : Func} {s : ChangeSpec} {H : Type} {enc : TypeId × Value → H} {tb : TypeId} (tys : List Ty)
    (own : ownKnob C.prog.godebug = none) (started : os.Started) (noInit : C.prog.inits.idxOf? f = none) (hfn : C.prog.funcs[f]? = some fn)
    (laid : laidOutB C.prog = true) (hv : s.vars = []) (hfits : tysFit C.prog tys fn.params.toList = true) (hres : fn.resultTypes = #[tb]) (hbool : C.prog.underlying tb = some .bool)
    (hspec : ∀ ds : List (DataW H), ds.length = tys.length → s.fn H ds = { results := [.lit (.bool true)], args := ds })
    (witness : ∃ (w : World) (tape : Tape) (i : Input), w.os = os ∧ (w.forCall tape i).Shaped C.prog ∧ i.vars = [] ∧ Input.okWide C.prog (w.forCall tape i) .any w.heap.size f i ∧
      s.pre6 enc C.prog fn [] false (w.forCall tape i).memory i.args ∧ ({} : Assume).holds C.prog (lone (Frame.enter C.prog f i.args .normal) [] (w.forCall tape i)))
    (walk : ∀ (W : World) (args : Array Value), Args W W.heap.size tys args.toList → Calls C.prog f args W fun e W' => e = .returned (.bool true) ∧ Below W.heap.size W W') :
    ReturnsInHanded {} C os f .any (s.pre6 enc C.prog fn [] false) (s.post enc C.prog fn false true false false) := by
  refine returnsInHanded_of_change_sized own started noInit hfn witness ?_
  intro W base args ds gs before hval hW _ hsz _
  have hW' := hW
  obtain ⟨p, q, hA, hV, rfl, hfz, hnd⟩ := hW
  have hvv : DataW.TrodVars enc C.prog W (fun _ => true) s.vars gs q := hV
  rw [hv] at hvv
  obtain ⟨rfl, rfl⟩ := trodVars_none hvv
  have hlt : ∀ x ∈ p, x.block < W.heap.size := fun x hx => hW'.lt x (by simp [hx])
  have hw : ∀ x ∈ DataW.weightsEach C.prog fn.params.toList ds, x ≤ reachBytes := by
    have e : s.plain.varTypes C.prog = [] := by
      have : s.plain.vars = [] := hv
      simp [DataSpec.varTypes, this]
    rw [e, List.append_nil, List.append_nil] at hsz
    intro x hx
    simpa using List.all_eq_true.1 hsz x hx
  obtain ⟨hargs, hlen⟩ := args_of_trodAll tys _ _ _ _ hfits (fun j t v ht hvj => hval j t v (by rw [← Array.getElem?_toList]; exact ht) (by rw [← Array.getElem?_toList]; exact hvj)) hA hw
  refine (walk W args hargs).mono fun e W' ⟨he, hb⟩ => ?_
  subst he
  have hs := hspec (ds ++ []) (by simpa using hlen)
  refine ⟨_, rfl, ds, [], _, [], p, [], hW', ?_, ?_, ?_, hb.frame _, fun h => by cases h⟩
  · rw [hs, hres]; exact trodAll_mk1 (shut_bool hbool _)
  · rw [hs, List.append_nil]; exact trodAll_below laid hb tys _ _ _ _ hfits hA hlt
  · rw [hs, hv]; rfl

/-- A slice value that reads as a list of one-cell values; its block is below B. -/
def IsVals (B : Nat) (w : World) (v : Value) (xs : List Value) : Prop :=
  ∃ a cap, v = .slice a xs.length cap ∧ xs.length ≤ cap ∧ cap ≤ maxLen ∧ (a = none → cap = 0) ∧
    (xs = [] ∨ ∃ b off, a = some ⟨b, off, none⟩ ∧ b < B ∧ ∀ i, i < xs.length → w.cell? ⟨b, off + i, none⟩ = some (xs.getD i undef))
theorem IsVals.below {B : Nat} {w w' : World} {v : Value} {xs : List Value} (h : IsVals B w v xs) (hb : Below B w w') : IsVals B w' v xs := by
  obtain ⟨a, cap, h1, h2, h3, h4, h5⟩ := h
  exact ⟨a, cap, h1, h2, h3, h4, h5.imp id fun ⟨b, off, g1, g2, g3⟩ => ⟨b, off, g1, g2, fun i hi => (hb.cell (p := ⟨b, off + i, none⟩) g2).trans (g3 i hi)⟩⟩
theorem IsVals.mono {B B' : Nat} {w : World} {v : Value} {xs : List Value} (h : IsVals B w v xs) (hb : B ≤ B') : IsVals B' w v xs := by
  obtain ⟨a, cap, h1, h2, h3, h4, h5⟩ := h
  exact ⟨a, cap, h1, h2, h3, h4, h5.imp id fun ⟨b, off, g1, g2, g3⟩ => ⟨b, off, g1, by omega, g3⟩⟩

/-- A new block of cells. -/
theorem isVals_new (w : World) (xs : List Value) (T : Nat) (h : xs.length ≤ maxLen) : IsVals (w.heap.size + 1) (w.alloc (.cells xs.toArray T)) (.slice (some ⟨w.heap.size, 0, none⟩) xs.length xs.length) xs :=
  ⟨_, _, rfl, Nat.le_refl _, h, by simp, .inr ⟨w.heap.size, 0, rfl, by omega, fun i hi => by rw [Nat.zero_add, World.cell?_alloc_new]; simp [hi]⟩⟩

/-- A slice argument of ints. -/
theorem ints_of_arg {w : World} {B by_ : Nat} {k : IntKind} {v : Value} (h : Arg w B (.slice by_ (.int k)) v) : ∃ zs : List Int, IsVals B w v (zs.map (Value.int k)) ∧ zs.length * by_ ≤ 140737488351232 ∧ ∀ z ∈ zs, (Lit.int k z).wf = true := by
  obtain ⟨a, len, cap, hv, h1, h2, h3, h4, xs, h5, h6, h7⟩ := h
  cases hv
  have hz : ∀ x ∈ xs, ∃ n, x = [.int k n] ∧ (Lit.int k n).wf = true := fun x hx => (h6 x hx).2
  have hx : xs = (xs.map (fun x => match x with | [.int _ n] => n | _ => 0)).map (fun n => [Value.int k n]) := by
    rw [List.map_map]
    conv => lhs; rw [← List.map_id xs]
    refine List.map_congr_left fun x hx => ?_
    obtain ⟨n, rfl, _⟩ := hz x hx
    rfl
  generalize hzs : xs.map (fun x => match x with | [.int _ n] => n | _ => 0) = zs at hx
  have hl : zs.length = len := by rw [← hzs, List.length_map, h5]
  refine ⟨zs, ⟨a, cap, by rw [List.length_map, hl], by rw [List.length_map, hl]; exact h1, h2, h4, ?_⟩, ?_, ?_⟩
  · rcases h7 with h7 | ⟨b, off, e1, e2, e3⟩
    · left; rw [h7] at hl; rw [List.length_eq_zero_iff.1 hl]; rfl
    · refine .inr ⟨b, off, e1, e2, fun i hi => ?_⟩
      rw [List.length_map, hl] at hi
      have := e3 i 0 hi (by simp [Ty.size])
      simp only [Ty.size, Nat.mul_one, Nat.add_zero] at this
      rw [this, hx]
      have hi' : i < zs.length := by omega
      simp [List.getD, hi']
  · rw [hl]; exact Nat.le_trans (Nat.mul_le_mul_right _ h1) h3
  · intro z hz'
    rw [← hzs] at hz'
    obtain ⟨x, hx, rfl⟩ := List.mem_map.1 hz'
    obtain ⟨n, rfl, hw⟩ := hz x hx
    exact hw

theorem int_of_arg {w : World} {B : Nat} {k : IntKind} {v : Value} (h : Arg w B (.int k) v) : ∃ n, v = .int k n ∧ (Lit.int k n).wf = true := by
  obtain ⟨n, e, hw⟩ := h
  cases e
  exact ⟨n, rfl, hw⟩

/-- A world that has grown out of w: what was there has not turned. -/
structure BW (w : World) where
  val : World
  prop : Below w.heap.size w val
instance (w : World) : Nonempty (BW w) := ⟨⟨w, Below.refl _ _⟩⟩
@[go_sem] theorem BW.cell {w : World} (x : BW w) {b o : Nat} (h : b < w.heap.size) : x.val.cell? ⟨b, o, none⟩ = w.cell? ⟨b, o, none⟩ := x.prop.cell (p := ⟨b, o, none⟩) h
@[go_sem] theorem BW.frozen {w : World} (x : BW w) {b o : Nat} (h : b < w.heap.size) : x.val.frozen? ⟨b, o, none⟩ = w.frozen? ⟨b, o, none⟩ := x.prop.frozen (p := ⟨b, o, none⟩) h

section
variable {P : Program}
theorem bw_call {f : FuncId} {args : Array Value} {w : World} {x : BW w} {v : Value} (h : Calls P f args x.val fun e w' => e = .returned v ∧ Below x.val.heap.size x.val w') :
    Calls P f args x.val fun e w'' => e = .returned v ∧ ∃ y : BW w, w'' = y.val :=
  h.mono fun _ w' ⟨he, hb⟩ => ⟨he, ⟨w', x.prop.trans (hb.mono x.prop.size)⟩, rfl⟩
theorem bw_same {f : FuncId} {args : Array Value} {w : World} {x : BW w} {v : Value} (h : Calls P f args x.val fun e w' => e = .returned v ∧ x.val = w') :
    Calls P f args x.val fun e w'' => e = .returned v ∧ ∃ y : BW w, w'' = y.val :=
  h.mono fun _ _ ⟨he, hb⟩ => ⟨he, x, hb.symm⟩
theorem wp_region_bw {id : Nat} {Q : Exit → Act → World → Prop} {a : Act} {w : World} {l : List Oper} (hm : P.follows .mixedOrders = true) (hB : Region.lexB .any l.toArray = true)
    (h : wpQuiet P l.toArray (fun w' => ∃ x : BW w, w' = x.val) (fun a' => ∀ w', (∃ x : BW w, w' = x.val) → Q .normal a' w') l a) : (Code.region id l.toArray true).wp P Q a w :=
  wp_region_quiet (C := fun w' => ∃ x : BW w, w' = x.val) hm hB ⟨⟨w.drew, (Below.refl _ _).drew⟩, rfl⟩ (by simpa using h)
end
end Go.Peri
namespace Go.Peri
open Go.RowKit

/-- It returns a value of which Q holds (closed to the walk's simp). -/
def Ret (Q : Value → World → Prop) (e : Ending) (w' : World) : Prop := ∃ v, e = .returned v ∧ Q v w'

/-- Of what was there only the blocks in S may have turned. -/
structure Only (S : List Nat) (w w' : World) : Prop where
  os : w'.os = w.os
  tape : w'.tape = w.tape
  output : w'.output = w.output
  size : w.heap.size ≤ w'.heap.size
  block : ∀ k, k < w.heap.size → k ∉ S → w'.heap[k]? = w.heap[k]?

theorem Only.refl (S : List Nat) (w : World) : Only S w w := ⟨rfl, rfl, rfl, Nat.le_refl _, fun _ _ _ => rfl⟩
theorem Only.trans {S : List Nat} {a b c : World} (h : Only S a b) (k : Only S b c) : Only S a c :=
  ⟨k.os.trans h.os, k.tape.trans h.tape, k.output.trans h.output, Nat.le_trans h.size k.size, fun i hi hs => (k.block i (Nat.lt_of_lt_of_le hi h.size) hs).trans (h.block i hi hs)⟩
theorem Only.mono {S S' : List Nat} {a b : World} (h : Only S a b) (hs : ∀ k, k ∈ S → k ∈ S') : Only S' a b :=
  ⟨h.os, h.tape, h.output, h.size, fun i hi hn => h.block i hi (fun hm => hn (hs i hm))⟩
theorem Only.drew {S : List Nat} {a w : World} (h : Only S a w) : Only S a w.drew := ⟨h.os, h.tape, h.output, h.size, h.block⟩
theorem Only.drewN {S : List Nat} {a w : World} (h : Only S a w) (n : Nat) : Only S a (w.drewN n) := ⟨h.os, h.tape, h.output, h.size, h.block⟩
theorem Only.alloc {S : List Nat} {a w : World} (h : Only S a w) (o : Obj) : Only S a (w.alloc o) :=
  h.trans ⟨rfl, rfl, rfl, by simp, fun k hk _ => Below.heap_alloc _ _ _ hk⟩
theorem Only.setCell {S : List Nat} {a w : World} (h : Only S a w) {p : Addr} (hp : p.block ∈ S) (u : Value) : Only S a (w.setCell p u) :=
  h.trans ⟨rfl, rfl, rfl, by simp [World.setCell], fun k _ hk => Below.heap_setCell _ _ _ _ (fun e => hk (e ▸ hp))⟩
theorem Only.setNew {S : List Nat} {a w : World} (h : Only S a w) {p : Addr} (hp : a.heap.size ≤ p.block) (u : Value) : Only S a (w.setCell p u) :=
  ⟨h.os, h.tape, h.output, by simpa [World.setCell] using h.size, fun k hk hs => (Below.heap_setCell _ _ _ _ (by omega)).trans (h.block k hk hs)⟩
theorem Only.of_below {S : List Nat} {a b : World} (h : Below a.heap.size a b) : Only S a b := ⟨h.os, h.tape, h.output, h.size, fun k hk _ => h.block k hk⟩
theorem Only.below {S : List Nat} {a b : World} (h : Only S a b) {B : Nat} (hB : B ≤ a.heap.size) (hs : ∀ k, k ∈ S → B ≤ k) : Below B a b :=
  ⟨h.os, h.tape, h.output, h.size, fun k hk => h.block k (by omega) (fun hm => by have := hs k hm; omega)⟩
theorem Only.nil {a b : World} (h : Only [] a b) : Below a.heap.size a b := h.below (Nat.le_refl _) (by simp)
theorem Only.cell {S : List Nat} {a b : World} (h : Only S a b) {p : Addr} (hp : p.block < a.heap.size) (hn : p.block ∉ S) : b.cell? p = a.cell? p := World.cell?_of_block (h.block _ hp hn)
theorem Only.frozen {S : List Nat} {a b : World} (h : Only S a b) {p : Addr} (hp : p.block < a.heap.size) (hn : p.block ∉ S) : b.frozen? p = a.frozen? p := World.frozen?_of_block (h.block _ hp hn)

/-- A slice value that reads as a list of one-cell values; p says of its block what is known. -/
def Vals (p : Nat → Prop) (w : World) (v : Value) (xs : List Value) : Prop :=
  ∃ a cap, v = .slice a xs.length cap ∧ xs.length ≤ cap ∧ cap ≤ maxLen ∧ (a = none → cap = 0) ∧
    (xs = [] ∨ ∃ b off, a = some ⟨b, off, none⟩ ∧ p b ∧ ∀ i, i < xs.length → w.cell? ⟨b, off + i, none⟩ = some (xs.getD i undef))
theorem Vals.of_is {B : Nat} {w : World} {v : Value} {xs : List Value} (h : IsVals B w v xs) : Vals (· < B) w v xs := h
theorem Vals.imp {p q : Nat → Prop} {w : World} {v : Value} {xs : List Value} (h : Vals p w v xs) (hpq : ∀ b, p b → q b) : Vals q w v xs := by
  obtain ⟨a, cap, h1, h2, h3, h4, h5⟩ := h
  exact ⟨a, cap, h1, h2, h3, h4, h5.imp id fun ⟨b, off, g1, g2, g3⟩ => ⟨b, off, g1, hpq b g2, g3⟩⟩
theorem Vals.only {p : Nat → Prop} {S : List Nat} {w w' : World} {v : Value} {xs : List Value} (h : Vals p w v xs) (ho : Only S w w') (hp : ∀ b, p b → b < w.heap.size ∧ b ∉ S) : Vals p w' v xs := by
  obtain ⟨a, cap, h1, h2, h3, h4, h5⟩ := h
  exact ⟨a, cap, h1, h2, h3, h4, h5.imp id fun ⟨b, off, g1, g2, g3⟩ => ⟨b, off, g1, g2, fun i hi => (ho.cell (p := ⟨b, off + i, none⟩) (hp b g2).1 (hp b g2).2).trans (g3 i hi)⟩⟩
theorem Vals.below {p : Nat → Prop} {B : Nat} {w w' : World} {v : Value} {xs : List Value} (h : Vals p w v xs) (ho : Below B w w') (hp : ∀ b, p b → b < B) : Vals p w' v xs := by
  obtain ⟨a, cap, h1, h2, h3, h4, h5⟩ := h
  exact ⟨a, cap, h1, h2, h3, h4, h5.imp id fun ⟨b, off, g1, g2, g3⟩ => ⟨b, off, g1, g2, fun i hi => (ho.cell (p := ⟨b, off + i, none⟩) (hp b g2)).trans (g3 i hi)⟩⟩
theorem Vals.lt {p : Nat → Prop} {w : World} {v : Value} {xs : List Value} (h : Vals p w v xs) : Vals (fun b => p b ∧ b < w.heap.size) w v xs := by
  obtain ⟨a, cap, h1, h2, h3, h4, h5⟩ := h
  refine ⟨a, cap, h1, h2, h3, h4, ?_⟩
  by_cases hn : xs = []
  · exact .inl hn
  · rcases h5 with h5 | ⟨b, off, g1, g2, g3⟩
    · exact .inl h5
    · refine .inr ⟨b, off, g1, ⟨g2, ?_⟩, g3⟩
      have hl : 0 < xs.length := List.length_pos_iff.2 hn
      have := g3 0 hl
      have h9 := World.cells?_block (w := w) (base := 0) (a := ⟨b, off + 0, none⟩) (n := 1) (cs := [xs.getD 0 undef]) (ChangeShapes.cells?_one (Nat.zero_le _) this) (by omega)
      exact h9
theorem Vals.cells {p : Nat → Prop} {w w' : World} {v : Value} {xs : List Value} (h : Vals p w v xs) (hc : ∀ b o, p b → w'.cell? ⟨b, o, none⟩ = w.cell? ⟨b, o, none⟩) : Vals p w' v xs := by
  obtain ⟨a, cap, h1, h2, h3, h4, h5⟩ := h
  exact ⟨a, cap, h1, h2, h3, h4, h5.imp id fun ⟨b, off, g1, g2, g3⟩ => ⟨b, off, g1, g2, fun i hi => (hc b _ g2).trans (g3 i hi)⟩⟩
theorem Vals.nil (p : Nat → Prop) (w : World) : Vals p w (.slice none 0 0) [] := ⟨none, 0, rfl, Nat.le_refl _, Nat.zero_le _, fun _ => rfl, .inl rfl⟩

/-- A slice in new memory. -/
def NewVals (w : World) (xs : List Value) (v : Value) (w' : World) : Prop := Below w.heap.size w w' ∧ Vals (fun b => w.heap.size ≤ b ∧ b < w'.heap.size) w' v xs

/-- What append's laws leave, as a reading. -/
theorem Vals.of_owns {w : World} {base : Nat} {e : TypeId} {v : Value} {n : Nat} {xs : List Value} (h : w.ownsRow base e 1 v n xs) : Vals (fun b => base ≤ b ∧ b < w.heap.size) w v xs := by
  have hx := h
  obtain ⟨h1, h2⟩ := h
  rcases h2 with ⟨rfl, rfl⟩ | ⟨g, cap, cur, rfl, hg, hh, hn, hcap, hsz, htake⟩
  · simp at h1
    rw [h1]
    exact Vals.nil _ _
  · have hl : xs.length = n := by simpa using h1
    subst hl
    refine ⟨_, cap, rfl, hn, hcap, by simp, .inr ⟨g, 0, rfl, ⟨hg, ?_⟩, fun i hi => ?_⟩⟩
    · exact (Array.getElem?_eq_some_iff.1 hh).1
    · rw [Nat.zero_add, hx.cellAt i (by simpa using hi)]
      simp [List.getD, hi]

/-- A whole block of cells. -/
def Blk (w : World) (g : Nat) (cs : Array Value) (t : TypeId) : Prop := w.heap[g]? = some (.cells cs t (0, 0))
section
variable {w : World} {g : Nat} {cs : Array Value} {t : TypeId}
theorem Blk.cell (h : Blk w g cs t) (i : Nat) : w.cell? ⟨g, i, none⟩ = cs[i]? := by unfold Blk at h; simp [World.cell?, h]
theorem Blk.free (h : Blk w g cs t) (i : Nat) : w.frozen? ⟨g, i, none⟩ = false := by unfold Blk at h; simp [World.frozen?, h]
theorem Blk.lt (h : Blk w g cs t) : g < w.heap.size := (Array.getElem?_eq_some_iff.1 h).1
theorem Blk.drew (h : Blk w g cs t) : Blk w.drew g cs t := h
theorem Blk.drewN (h : Blk w g cs t) (n : Nat) : Blk (w.drewN n) g cs t := h
theorem Blk.alloc (h : Blk w g cs t) (o : Obj) : Blk (w.alloc o) g cs t := (Below.heap_alloc w o g h.lt).trans h
theorem Blk.new (w : World) (cs : Array Value) (t : TypeId) : Blk (w.alloc (.cells cs t)) w.heap.size cs t := (MapKept.heap_alloc w _).1
theorem Blk.new' (w : World) (cs : Array Value) (t : TypeId) {n : Nat} (hn : n = w.heap.size) : Blk (w.alloc (.cells cs t)) n cs t := by rw [hn]; exact Blk.new w cs t
theorem Blk.set (h : Blk w g cs t) (i : Nat) (v : Value) : Blk (w.setCell ⟨g, i, none⟩ v) g (cs.setIfInBounds i v) t := by
  unfold Blk at h ⊢
  simp only [World.setCell, Array.getElem?_modify]
  rw [if_pos trivial, h]
  rfl
theorem Blk.other (h : Blk w g cs t) {p : Addr} (hp : g ≠ p.block) (v : Value) : Blk (w.setCell p v) g cs t := (Below.heap_setCell w p v g hp).trans h
theorem Blk.only {S : List Nat} {w' : World} (h : Blk w g cs t) (ho : Only S w w') (hs : g ∉ S) : Blk w' g cs t := (ho.block g h.lt hs).trans h
theorem Blk.below {B : Nat} {w' : World} (h : Blk w g cs t) (hb : Below B w w') (hs : g < B) : Blk w' g cs t := (hb.block g hs).trans h
theorem Blk.later {w' : World} (h : Blk w g cs t) (hb : Below w.heap.size w w') : Blk w' g cs t := (hb.block g h.lt).trans h
theorem Blk.vals {xs : List Value} (h : Blk w g xs.toArray t) (hm : xs.length ≤ maxLen) : Vals (· = g) w (.slice (some ⟨g, 0, none⟩) xs.length xs.length) xs :=
  ⟨_, _, rfl, Nat.le_refl _, hm, by simp, .inr ⟨g, 0, rfl, rfl, fun i hi => by rw [Nat.zero_add, h.cell]; simp [hi]⟩⟩
end
end Go.Peri
namespace Go.Peri
open Go.RowKit
/-- An element type's row of the table. -/
structure Elem (P : Program) (t e : TypeId) (size bytes : Nat) : Prop where
  under : P.underlying t = some (.slice e)
  info : ∃ i z, P.info? e = some i ∧ i.zero = some z ∧ i.size = size ∧ i.bytes = bytes ∧ z.cells.size = size
  pos : 0 < size
theorem Elem.mk' {P : Program} {t e : TypeId} {size bytes : Nat} {z : Value} (under : P.underlying t = some (.slice e)) (h : (P.info? e).map (fun i => (i.zero, i.size, i.bytes)) = some (some z, size, bytes)) (hz : z.cells.size = size) (pos : 0 < size) : Elem P t e size bytes := by
  obtain ⟨i, hi, h1, h2, h3⟩ := info_parts h
  exact ⟨under, ⟨i, z, hi, h1, h2, h3, hz⟩, pos⟩

section
variable {P : Program}
/-- 'out = append(out, x)' where x has just been laid in a block of its own. -/
theorem wpList_push {t e : TypeId} {size bytes : Nat} (E : Elem P t e size bytes) {ops : Array Oper} {rest : List Oper} {o : Oper} {a : Act} {Q : Exit → Act → World → Prop} {w w0 : World} (hgd : o.guard = none) (s x : Operand)
    (ho : o.op = .call { callee := .builtin .append, args := #[s, x], argTypes := #[t, t] }) (base : Nat) (v : Value) (n : Nat) (xs news : List Value) (hs : a.eval s = v) (hown : w0.ownsRow base e size v n xs) {T : TypeId}
    (hw : w = w0.alloc (.cells news.toArray T)) (hx : a.eval x = .slice (some ⟨w0.heap.size, 0, none⟩) 1 1) (hl : news.length = size) (h1 : ∀ u ∈ news, u.oneCell' = true)
    (h63 : n + 1 ≤ maxLen) (hbytes : (n + 1) * bytes ≤ 140737488355328) (hbase : base ≤ w0.heap.size)
    (h : ∀ v' w', w'.ownsRow base e size v' (n + 1) (xs ++ news) → Below base w0 w' → wpList P ops Q rest (a.put o.dst v') w') : wpList P ops Q (o :: rest) a w := by
  subst hw
  obtain ⟨i, z, hi, hz, hsz, hby, hzs⟩ := E.info
  refine wpList_append_own (w0.alloc (.cells news.toArray T)) hgd s x t ho base e i z size bytes E.under hi hz hsz hby hzs E.pos v n xs hs (hown.alloc _) ⟨w0.heap.size, 0, none⟩ 1 1 news hx (by omega) ?_ h1 h63 hbytes (by simp; omega) ?_
  · intro j u hj
    have e1 : (⟨w0.heap.size, 0, none⟩ : Addr).add j = ⟨w0.heap.size, j, none⟩ := by
      unfold Addr.add; split
      · rename_i hz; rw [hz]
      · simp
    rw [e1, World.cell?_alloc_new]
    simpa using hj
  · intro v' w' hown' hgrow _
    refine h v' w' hown' ?_
    refine ((Below.refl base w0).alloc (by omega) _).grown hgrow (by simp; omega) ?_
    intro k hk
    exact (hown.lt k hk).1
/-- .. inside a region that draws its order. -/
theorem step_push {t e : TypeId} {size bytes : Nat} (E : Elem P t e size bytes) {ops : Array Oper} {o : Oper} {a : Act} {Q : Exit → Act → World → Prop} {K : Act → World → Prop} {X : Prop} {w w0 : World} (hgd : o.guard = none) (s x : Operand)
    (ho : o.op = .call { callee := .builtin .append, args := #[s, x], argTypes := #[t, t] }) (base : Nat) (v : Value) (n : Nat) (xs news : List Value) (hs : a.eval s = v) (hown : w0.ownsRow base e size v n xs) {T : TypeId}
    (hw : w = w0.alloc (.cells news.toArray T)) (hx : a.eval x = .slice (some ⟨w0.heap.size, 0, none⟩) 1 1) (hl : news.length = size) (h1 : ∀ u ∈ news, u.oneCell' = true)
    (h63 : n + 1 ≤ maxLen) (hbytes : (n + 1) * bytes ≤ 140737488355328) (hbase : base ≤ w0.heap.size)
    (h : ∀ v' w', w'.ownsRow base e size v' (n + 1) (xs ++ news) → Below base w0 w' → K (a.put o.dst v') w') :
    if Region.wanted o (yielded ops a.tmps) = true then Oper.wp P o a w K Q else X := by
  have hwant : Region.wanted o (yielded ops a.tmps) = true := by simp [Region.wanted, hgd]
  rw [if_pos hwant]
  subst hw
  obtain ⟨i, z, hi, hz, hsz, hby, hzs⟩ := E.info
  refine wp_append_own (w0.alloc (.cells news.toArray T)) s x t ho base e i z size bytes E.under hi hz hsz hby hzs E.pos v n xs hs (hown.alloc _) ⟨w0.heap.size, 0, none⟩ 1 1 news hx (by omega) ?_ h1 h63 hbytes (by simp; omega) ?_
  · intro j u hj
    have e1 : (⟨w0.heap.size, 0, none⟩ : Addr).add j = ⟨w0.heap.size, j, none⟩ := by
      unfold Addr.add; split
      · rename_i hz; rw [hz]
      · simp
    rw [e1, World.cell?_alloc_new]
    simpa using hj
  · intro v' w' hown' hgrow _
    refine h v' w' hown' ?_
    refine ((Below.refl base w0).alloc (by omega) _).grown hgrow (by simp; omega) ?_
    intro k hk
    exact (hown.lt k hk).1
/-- The same where nothing is appended, or a whole slice: 'append(out, ys...)'. -/
theorem wpList_pushes {t e : TypeId} {size bytes : Nat} (E : Elem P t e size bytes) {ops : Array Oper} {rest : List Oper} {o : Oper} {a : Act} {Q : Exit → Act → World → Prop} {w : World} (hgd : o.guard = none) (s x : Operand)
    (ho : o.op = .call { callee := .builtin .append, args := #[s, x], argTypes := #[t, t] }) (base : Nat) (v : Value) (n : Nat) (xs news : List Value) (hs : a.eval s = v) (hown : w.ownsRow base e size v n xs)
    (ad : Addr) (m c : Nat) (hx : a.eval x = .slice (some ad) m c) (hl : news.length = m * size) (hnews : ∀ j u, news[j]? = some u → w.cell? (ad.add j) = some u) (h1 : ∀ u ∈ news, u.oneCell' = true)
    (h63 : n + m ≤ maxLen) (hbytes : (n + m) * bytes ≤ 140737488355328) (hbase : base ≤ w.heap.size)
    (h : ∀ v' w', w'.ownsRow base e size v' (n + m) (xs ++ news) → Below base w w' → wpList P ops Q rest (a.put o.dst v') w') : wpList P ops Q (o :: rest) a w := by
  obtain ⟨i, z, hi, hz, hsz, hby, hzs⟩ := E.info
  refine wpList_append_own w hgd s x t ho base e i z size bytes E.under hi hz hsz hby hzs E.pos v n xs hs hown ad m c news hx hl hnews h1 h63 hbytes hbase ?_
  intro v' w' hown' hgrow _
  refine h v' w' hown' ((Below.refl base w).grown hgrow hbase ?_)
  intro k hk
  exact (hown.lt k hk).1
/-- make([]T, n). -/
theorem run_make_n (t e : TypeId) {i : TypeInfo} {z : Value} (ht : P.underlying t = some (.slice e)) (hi : P.info? e = some i) (hz : i.zero = some z)
    (n : Nat) (hbytes : i.bytes * n ≤ 281474976710656) (h63 : n ≤ 9223372036854775807) (w : World) :
    (Instr.makeSlice t (.int .i64 (n : Int)) (.int .i64 (n : Int))).run P w = .ok (.slice (some ⟨w.heap.size, 0, none⟩) n n) (w.alloc (.cells (madeCells z.cells (n * i.size)) e)) := by
  have hb : (i.bytes : Int) * (n : Int) ≤ 281474976710656 := by
    have h : ((i.bytes * n : Nat) : Int) ≤ 281474976710656 := by omega
    rwa [Int.natCast_mul] at h
  have hr := run_make (P := P) w t e i z ht hi hz .i64 .i64 n n (by omega) (by omega) hb (by omega)
  simp only [Int.toNat_natCast] at hr
  exact hr
end
end Go.Peri

namespace Go.Peri
open Go.RowKit
/-- A slice value of n elements, 'size' cells each, that reads as the list of its cells. -/
def Cellz (p : Nat → Prop) (size : Nat) (w : World) (v : Value) (n : Nat) (xs : List Value) : Prop :=
  xs.length = n * size ∧ ∃ a cap, v = .slice a n cap ∧ n ≤ cap ∧ cap ≤ maxLen ∧ (a = none → cap = 0) ∧
    (n = 0 ∨ ∃ b off, a = some ⟨b, off, none⟩ ∧ p b ∧ ∀ i, i < xs.length → w.cell? ⟨b, off + i, none⟩ = some (xs.getD i undef))
theorem Vals.cellz {p : Nat → Prop} {w : World} {v : Value} {xs : List Value} (h : Vals p w v xs) : Cellz p 1 w v xs.length xs := by
  obtain ⟨a, cap, h1, h2, h3, h4, h5⟩ := h
  exact ⟨by omega, a, cap, h1, h2, h3, h4, h5.imp (fun e => by rw [e]; rfl) id⟩
theorem Cellz.vals {p : Nat → Prop} {w : World} {v : Value} {n : Nat} {xs : List Value} (h : Cellz p 1 w v n xs) : Vals p w v xs := by
  obtain ⟨h0, a, cap, h1, h2, h3, h4, h5⟩ := h
  obtain rfl : n = xs.length := by omega
  exact ⟨a, cap, h1, h2, h3, h4, h5.imp (fun e => List.length_eq_zero_iff.1 e) id⟩
theorem Cellz.imp {p q : Nat → Prop} {size n : Nat} {w : World} {v : Value} {xs : List Value} (h : Cellz p size w v n xs) (hpq : ∀ b, p b → q b) : Cellz q size w v n xs := by
  obtain ⟨h0, a, cap, h1, h2, h3, h4, h5⟩ := h
  exact ⟨h0, a, cap, h1, h2, h3, h4, h5.imp id fun ⟨b, off, g1, g2, g3⟩ => ⟨b, off, g1, hpq b g2, g3⟩⟩
theorem Cellz.only {p : Nat → Prop} {size n : Nat} {S : List Nat} {w w' : World} {v : Value} {xs : List Value} (h : Cellz p size w v n xs) (ho : Only S w w') (hp : ∀ b, p b → b < w.heap.size ∧ b ∉ S) : Cellz p size w' v n xs := by
  obtain ⟨h0, a, cap, h1, h2, h3, h4, h5⟩ := h
  exact ⟨h0, a, cap, h1, h2, h3, h4, h5.imp id fun ⟨b, off, g1, g2, g3⟩ => ⟨b, off, g1, g2, fun i hi => (ho.cell (p := ⟨b, off + i, none⟩) (hp b g2).1 (hp b g2).2).trans (g3 i hi)⟩⟩
theorem Cellz.below {p : Nat → Prop} {size n B : Nat} {w w' : World} {v : Value} {xs : List Value} (h : Cellz p size w v n xs) (ho : Below B w w') (hp : ∀ b, p b → b < B) : Cellz p size w' v n xs := by
  obtain ⟨h0, a, cap, h1, h2, h3, h4, h5⟩ := h
  exact ⟨h0, a, cap, h1, h2, h3, h4, h5.imp id fun ⟨b, off, g1, g2, g3⟩ => ⟨b, off, g1, g2, fun i hi => (ho.cell (p := ⟨b, off + i, none⟩) (hp b g2)).trans (g3 i hi)⟩⟩
theorem Cellz.nil (p : Nat → Prop) (size : Nat) (w : World) : Cellz p size w (.slice none 0 0) 0 [] := ⟨by simp, none, 0, rfl, Nat.le_refl _, Nat.zero_le _, fun _ => rfl, .inl rfl⟩
theorem Cellz.lt {p : Nat → Prop} {size n : Nat} {w : World} {v : Value} {xs : List Value} (h : Cellz p size w v n xs) (hs : 0 < size) : Cellz (fun b => p b ∧ b < w.heap.size) size w v n xs := by
  obtain ⟨h0, a, cap, h1, h2, h3, h4, h5⟩ := h
  refine ⟨h0, a, cap, h1, h2, h3, h4, ?_⟩
  by_cases hn : n = 0
  · exact .inl hn
  · obtain ⟨b, off, g1, g2, g3⟩ := h5.resolve_left hn
    refine .inr ⟨b, off, g1, ⟨g2, ?_⟩, g3⟩
    have hl : 0 < xs.length := by rw [h0]; exact Nat.mul_pos (by omega) hs
    exact World.cells?_block (w := w) (base := 0) (a := ⟨b, off + 0, none⟩) (n := 1) (cs := [xs.getD 0 undef]) (ChangeShapes.cells?_one (Nat.zero_le _) (g3 0 hl)) (by omega)
theorem Cellz.of_owns {w : World} {base : Nat} {e : TypeId} {size : Nat} {v : Value} {n : Nat} {xs : List Value} (h : w.ownsRow base e size v n xs) : Cellz (fun b => base ≤ b ∧ b < w.heap.size) size w v n xs := by
  have hx := h
  obtain ⟨h1, h2⟩ := h
  refine ⟨h1, ?_⟩
  rcases h2 with ⟨rfl, rfl⟩ | ⟨g, cap, cur, rfl, hg, hh, hn, hcap, hsz, htake⟩
  · exact ⟨_, _, rfl, Nat.le_refl _, Nat.zero_le _, fun _ => rfl, .inl rfl⟩
  · refine ⟨_, cap, rfl, hn, hcap, by simp, .inr ⟨g, 0, rfl, ⟨hg, (Array.getElem?_eq_some_iff.1 hh).1⟩, fun i hi => ?_⟩⟩
    rw [Nat.zero_add, hx.cellAt i (by rw [← h1]; exact hi)]
    simp [List.getD, hi]

/-- 'out = append(out, ys...)'. -/
theorem wpList_pushCells {P : Program} {t e : TypeId} {size bytes : Nat} (E : Elem P t e size bytes) {ops : Array Oper} {rest : List Oper} {o : Oper} {a : Act} {Q : Exit → Act → World → Prop} {w : World} (hgd : o.guard = none) (s x : Operand)
    (ho : o.op = .call { callee := .builtin .append, args := #[s, x], argTypes := #[t, t] }) (base : Nat) (v : Value) (n : Nat) (xs : List Value) (hs : a.eval s = v) (hown : w.ownsRow base e size v n xs)
    {p : Nat → Prop} {m : Nat} {vx : Value} {news : List Value} (hx : a.eval x = vx) (hv : Cellz p size w vx m news) (h1 : ∀ u ∈ news, u.oneCell' = true)
    (h63 : n + m ≤ maxLen) (hbytes : (n + m) * bytes ≤ 140737488355328) (hbase : base ≤ w.heap.size)
    (h : ∀ v' w', w'.ownsRow base e size v' (n + m) (xs ++ news) → Below base w w' → wpList P ops Q rest (a.put o.dst v') w') : wpList P ops Q (o :: rest) a w := by
  obtain ⟨hl, ad, cap, rfl, hmc, hcm, hnone, hcell⟩ := hv
  obtain ⟨i, z, hi, hz, hsz, hby, hzs⟩ := E.info
  cases ad with
  | none =>
    have : cap = 0 := hnone rfl
    obtain rfl : m = 0 := by omega
    subst this
    have hn : news = [] := List.length_eq_zero_iff.1 (by simpa using hl)
    subst hn
    refine wpList_append_own_none hgd s x t ho base e i size E.under hi v n xs hs hown hx ?_
    have := h v w (by simpa using hown) (Below.refl _ _)
    exact this
  | some ad =>
    refine wpList_pushes E hgd s x ho base v n xs news hs hown ad m cap hx hl ?_ h1 h63 hbytes hbase h
    intro j u hj
    have hj' := (List.getElem?_eq_some_iff.1 hj).1
    have hm : m ≠ 0 := by rintro rfl; rw [hl] at hj'; simp at hj'
    obtain ⟨b, off, g1, _, g3⟩ := hcell.resolve_left hm
    cases g1
    have e1 : (⟨b, off, none⟩ : Addr).add j = ⟨b, off + j, none⟩ := by
      unfold Addr.add; split
      · rename_i hz; rw [hz]; rfl
      · rfl
    rw [e1, g3 j hj']
    rw [List.getD, hj]
    rfl
end Go.Peri
namespace Go.Peri.Oct

/-- The last digits of a number to the base b, the highest first. -/
def dg (b n : Nat) : Nat → List Nat
  | 0 => []
  | i + 1 => (n / b ^ i % b) :: dg b n i
/-- The number of digits. -/
def val (b : Nat) (l : List Nat) : Nat := l.foldl (fun a d => a * b + d) 0

theorem dg_length (b n : Nat) : ∀ i, (dg b n i).length = i
  | 0 => rfl
  | i + 1 => by simp [dg, dg_length b n i]
theorem dg_lt (b n : Nat) (hb : 0 < b) : ∀ i, ∀ d ∈ dg b n i, d < b
  | 0, d, h => by simp [dg] at h
  | i + 1, d, h => by
    simp only [dg, List.mem_cons] at h
    rcases h with rfl | h
    · exact Nat.mod_lt _ hb
    · exact dg_lt b n hb i d h

theorem val_snoc (b : Nat) (l : List Nat) (d : Nat) : val b (l ++ [d]) = val b l * b + d := by simp [val]
theorem foldl_start (b : Nat) (l : List Nat) : ∀ a, l.foldl (fun a d => a * b + d) a = a * b ^ l.length + val b l := by
  induction l with
  | nil => intro a; simp [val]
  | cons d l ih =>
    intro a
    show l.foldl _ (a * b + d) = _
    have e : val b (d :: l) = l.foldl (fun a d => a * b + d) (0 * b + d) := rfl
    rw [ih, e, ih, List.length_cons, Nat.pow_succ]
    rw [Nat.zero_mul, Nat.zero_add, Nat.add_mul, Nat.mul_assoc, Nat.mul_comm b]
    omega
theorem val_cons (b d : Nat) (l : List Nat) : val b (d :: l) = d * b ^ l.length + val b l := by
  have e : val b (d :: l) = l.foldl (fun a d => a * b + d) (0 * b + d) := rfl
  rw [e, foldl_start]; simp
theorem val_lt (b : Nat) : ∀ l : List Nat, (∀ d ∈ l, d < b) → val b l < b ^ l.length
  | [], _ => by simp [val]
  | d :: l, h => by
    have h1 := val_lt b l (fun x hx => h x (by simp [hx]))
    have h2 := h d (by simp)
    rw [val_cons, List.length_cons, Nat.pow_succ]
    calc d * b ^ l.length + val b l < d * b ^ l.length + b ^ l.length := by omega
      _ = (d + 1) * b ^ l.length := by rw [Nat.add_mul, Nat.one_mul]
      _ ≤ b * b ^ l.length := Nat.mul_le_mul_right _ h2
      _ = b ^ l.length * b := Nat.mul_comm _ _
/-- Digits give the number back. -/
theorem val_dg (b n : Nat) (hb : 0 < b) : ∀ i, val b (dg b n i) = n % b ^ i
  | 0 => by simp [dg, val, Nat.mod_one]
  | i + 1 => by
    have e : dg b n (i + 1) = (n / b ^ i % b) :: dg b n i := rfl
    rw [e, val_cons, dg_length, val_dg b n hb i, Nat.pow_succ, Nat.mod_mul]
    rw [Nat.mul_comm]; omega
/-- The number's digits are the digits. -/
theorem dg_val (b : Nat) (hb : 0 < b) : ∀ l : List Nat, (∀ d ∈ l, d < b) → ∀ m, dg b (m * b ^ l.length + val b l) l.length = l
  | [], _, m => rfl
  | d :: l, h, m => by
    have hl := val_lt b l (fun x hx => h x (by simp [hx]))
    have h2 := h d (by simp)
    have hpos : 0 < b ^ l.length := Nat.pow_pos hb
    rw [List.length_cons, val_cons]
    have e : m * b ^ (l.length + 1) + (d * b ^ l.length + val b l) = (m * b + d) * b ^ l.length + val b l := by
      rw [Nat.pow_succ, Nat.add_mul, Nat.mul_assoc, Nat.mul_comm b, Nat.add_assoc]
    rw [e]
    have e2 : dg b ((m * b + d) * b ^ l.length + val b l) (l.length + 1) = (((m * b + d) * b ^ l.length + val b l) / b ^ l.length % b) :: dg b ((m * b + d) * b ^ l.length + val b l) l.length := rfl
    rw [e2, dg_val b hb l (fun x hx => h x (by simp [hx])) (m * b + d)]
    congr 1
    rw [Nat.mul_comm, Nat.mul_add_div hpos, Nat.div_eq_of_lt hl, Nat.add_zero, Nat.mul_comm m, Nat.mul_add_mod, Nat.mod_eq_of_lt h2]
theorem val_bound (b : Nat) (l : List Nat) (h : ∀ d ∈ l, d < b) (w : Nat) (hb : 0 < b) (hw : l.length ≤ w) : val b l < b ^ w :=
  Nat.lt_of_lt_of_le (val_lt b l h) (Nat.pow_le_pow_right hb hw)
end Go.Peri.Oct
namespace Go.Proofs.Ytcohcanakicmpaa
open Go.RowKit Go.Peri
namespace C01

def ofNats (l : List Nat) : ByteArray := ⟨(l.map UInt8.ofNat).toArray⟩
def bytes (l : List Nat) : List Value := l.map fun (d : Nat) => Value.int .u8 (d : Int)

theorem pow_ne (n b w : Nat) (hb : 0 < b) : (n / b ^ w = 0) ↔ n < b ^ w := by
  rw [Nat.div_eq_zero_iff]
  have : 0 < b ^ w := Nat.pow_pos hb
  omega

set_option maxRecDepth 100000 in
theorem within8 (n w : Nat) (W : World) (hn : n < 18446744073709551616) (h1 : 1 ≤ w) (h2 : w ≤ 8) :
    Calls Try.prog 92 #[.int .u64 n, .int .i64 8, .int .i64 w] W fun e w' => e = .returned (.bool (decide (n < 256 ^ w))) ∧ W = w' := by
  by_cases h8 : w = 8
  · subst h8
    have hd : Hid (decide (n < 256 ^ 8) = true) := by show _ = _; simpa using hn
    go_enter Try.func92, Try.ntmps92
    go_wp2_with fail
    go_ret
    exact ⟨by rw [hd.out]; rfl, rfl⟩
  · have h3 : ¬ (64 : Int) ≤ 8 * (w : Int) := by omega
    have h4 : w < 8 := by omega
    have hd : Hid (((n : Int) / 2 ^ (8 * w) == 0) = decide (n < 256 ^ w)) := by
      show _ = _
      have e : (2 : Int) ^ (8 * w) = ((256 ^ w : Nat) : Int) := by rw [Int.pow_mul]; simp
      rw [e, show ((n : Int) / ((256 ^ w : Nat) : Int)) = ((n / 256 ^ w : Nat) : Int) from rfl]
      by_cases hlt : n < 256 ^ w
      · rw [(pow_ne n 256 w (by decide)).2 hlt]; simp [hlt]
      · have := mt (pow_ne n 256 w (by decide)).1 hlt
        simp only [hlt, decide_false, beq_eq_false_iff_ne]
        omega
    clear h8
    go_enter Try.func92, Try.ntmps92
    go_wp2_with fail
    go_ret
    exact ⟨ret_bool hd.out, rfl⟩

def SplitQ (W : World) (b n w : Nat) (v : Value) (W' : World) : Prop := v = .slice (some ⟨W.heap.size, 0, none⟩) w w ∧ Below W.heap.size W W' ∧ Blk W' W.heap.size (bytes (Oct.dg b n w)).toArray 5

theorem and255 (m : Nat) : bits .and .u8 ((m : Int) % 256) 255 = ((m % 256 : Nat) : Int) := by
  have e : ((m : Int) % 256) = ((m % 256 : Nat) : Int) := by omega
  rw [e, show (255 : Int) = ((255 : Nat) : Int) from rfl, u8_and_nat _ _ (by omega) (by omega)]
  congr 1
  rw [show (255 : Nat) = 2 ^ 8 - 1 from rfl, Nat.and_two_pow_sub_one_eq_mod]
  omega
theorem and15 (m : Nat) : bits .and .u8 ((m : Int) % 256) 15 = ((m % 16 : Nat) : Int) := by
  have e : ((m : Int) % 256) = ((m % 256 : Nat) : Int) := by omega
  rw [e, show (15 : Int) = ((15 : Nat) : Int) from rfl, u8_and_nat _ _ (by omega) (by omega)]
  congr 1
  rw [show (15 : Nat) = 2 ^ 4 - 1 from rfl, Nat.and_two_pow_sub_one_eq_mod]
  omega

/-- The array of 'split' behind k rounds. -/
def half (b n w k : Nat) : List Value := List.replicate (w - k) (.int .u8 0) ++ bytes (Oct.dg b n k)
theorem half_length (b n w k : Nat) (h : k ≤ w) : (half b n w k).length = w := by
  simp [half, bytes, Oct.dg_length]; omega
theorem half_next (b n w k : Nat) (h : k < w) : (half b n w k).toArray.setIfInBounds (w - 1 - k) (.int .u8 ((n / b ^ k % b : Nat) : Int)) = (half b n w (k + 1)).toArray := by
  rw [List.setIfInBounds_toArray]
  congr 1
  unfold half
  rw [show w - k = (w - 1 - k) + 1 by omega, show w - (k + 1) = w - 1 - k by omega, List.replicate_succ', List.append_assoc, List.set_append_right _ _ (by simp)]
  simp [Oct.dg, bytes]
theorem half_start (b n w : Nat) : half b n w 0 = List.replicate w (.int .u8 0) := by simp [half, Oct.dg, bytes]
theorem half_end (b n w : Nat) : half b n w w = bytes (Oct.dg b n w) := by simp [half]

set_option maxRecDepth 100000 in
theorem split8 (n w : Nat) (W : World) (hn : n < 18446744073709551616) (h1 : 1 ≤ w) (h2 : w ≤ 8) :
    Calls Try.prog 93 #[.int .u64 n, .int .i64 8, .int .i64 w] W (Ret (SplitQ W 256 n w)) := by
  obtain ⟨i0, hi, hz, hsz, hby⟩ := info_parts (P := Try.prog) (e := 5) (z := .int .u8 0) (size := 1) (bytes := 1) (by kernel_rfl)
  have hmk : ∀ W : World, (Instr.makeSlice 142 (.int .i64 (w : Int)) (.int .i64 (w : Int))).run Try.prog W = .ok (.slice (some ⟨W.heap.size, 0, none⟩) w w) (W.alloc (.cells (half 256 n w 0).toArray 5)) := by
    intro W
    have := run_make_n (P := Try.prog) 142 5 Try.underlying142 hi hz w (by rw [hby]; omega) (by omega) W
    rw [this, hsz, Nat.mul_one, half_start]
    have e2 : madeCells (Value.int .u8 0).cells w = (List.replicate w (.int .u8 0)).toArray := by
      apply Array.toList_inj.1
      rw [show (Value.int .u8 0).cells = #[Value.int .u8 0] from rfl, toList_madeCells_one]
    rw [e2]
  clear hi hz hsz hby
  have hx0 : Blk (W.alloc (.cells (half 256 n w 0).toArray 5)) W.heap.size (half 256 n w 0).toArray 5 := Blk.new _ _ _
  have HX0 := hid hx0
  clear hx0
  obtain ⟨X0, hX0⟩ : ∃ X, X = (half 256 n w 0).toArray := ⟨_, rfl⟩
  rw [← hX0] at hmk
  have HXX := hid hX0
  clear hX0
  go_enter Try.func93, Try.ntmps93
  go_wp2_with fail
  go_loopw [0, 12] (fun x i wr => ∃ k m : Nat, k ≤ w ∧ i = .int .i64 k ∧ x = .int .u64 m ∧ m < 18446744073709551616 ∧ m = n / 256 ^ k ∧ Below W.heap.size W wr ∧ Blk wr W.heap.size (half 256 n w k).toArray 5) (fun _ i _ => w - (intOf i).toNat)
  case atStart => exact ⟨0, n, Nat.zero_le _, rfl, rfl, hn, by simp, by go_grown, by rw [HXX.out]; exact HX0.out⟩
  case round =>
    obtain ⟨k, m, hk, rfl, rfl, hm, hmn, hb, hx⟩ := hrel
    have HMN := hid hmn
    have HB := hid hb
    have HX := hid hx
    by_cases hlt : k < w
    · have c0 : wr.cell? ⟨W.heap.size, w - 1 - k, none⟩ = some ((half 256 n w k).toArray[w - 1 - k]'(by simp [half_length 256 n w k hk]; omega)) := by
        rw [hx.cell, Array.getElem?_eq_getElem]
      have f0 := hx.free (w - 1 - k)
      have e1 := and255 m
      have hnx := half_next 256 n w k hlt
      rw [← hmn] at hnx
      have HNX := hid hnx
      generalize (half 256 n w k).toArray[w - 1 - k]'(by simp [half_length 256 n w k hk]; omega) = u at c0
      clear hmn hb hx hnx hmk
      go_wp2_with fail
      go_roundw
      case rel =>
        refine ⟨k + 1, m / 256, by omega, by go_num, by go_num, by omega, ?_, ?_, ?_⟩
        · rw [HMN.out, Nat.div_div_eq_div_mul, Nat.pow_succ]
        · exact HB.out.setCell (Nat.le_refl _) _
        · have := HX.out.set (w - 1 - k) (.int .u8 ((m % 256 : Nat) : Int))
          rw [HNX.out] at this
          first | exact this | (simpa using this)
      case measure => simp [intOf]; omega
    · obtain rfl : k = w := by omega
      clear hmn hb hx
      go_wp2_with fail
      go_ret
      exact ⟨_, rfl, rfl, HB.out, by have := HX.out; rwa [half_end] at this⟩

theorem back8 (W : World) (g : Nat) (l : List Nat) (hl : ∀ d ∈ l, d < 256) (h : Blk W g (bytes l).toArray 5) (c : Nat) :
    (convert 142 9 (.slice (some ⟨g, 0, none⟩) l.length c)).run Try.prog W = .ok (.string (ofNats l)) W := by
  have hlen : (l.map UInt8.ofNat).length = l.length := by simp
  have := run_convert_bytes_back (P := Try.prog) W 142 9 5 ⟨g, 0, none⟩ c (l.map UInt8.ofNat) Try.underlying142 Try.underlying5 Try.underlying9 (fun j hj => by
    have hj' : j < l.length := by simpa using hj
    have e1 : (⟨g, 0, none⟩ : Addr).add j = ⟨g, j, none⟩ := by
      unfold Addr.add; split
      · rename_i hz; rw [hz]
      · simp
    rw [e1, h.cell]
    have hd := hl (l[j]) (List.getElem_mem hj')
    simp [bytes, hj']
    omega)
  rw [hlen] at this
  exact this

def putR (n : Nat) (w : Int) : ByteArray × Int :=
  if 1 ≤ w ∧ w ≤ 8 then (if n < 256 ^ w.toNat then (ofNats (Oct.dg 256 n w.toNat), 0) else (ByteArray.empty, 12)) else (ByteArray.empty, 2)

end C01
end Go.Proofs.Ytcohcanakicmpaa
namespace Go.Proofs.Ytcohcanakicmpaa
open Go.RowKit Go.Peri
namespace C01

def bytesAt (s : ByteArray) (at_ k : Nat) : List Nat := ((s.data.toList.drop at_).take k).map UInt8.toNat

theorem bytesAt_succ (s : ByteArray) (at_ k : Nat) (h : at_ + k < s.size) : bytesAt s at_ (k + 1) = bytesAt s at_ k ++ [(s[at_ + k]'h).toNat] := by
  unfold bytesAt
  have h' : k < (s.data.toList.drop at_).length := by
    rw [List.length_drop, Array.length_toList]; have : s.data.size = s.size := rfl; omega
  rw [List.take_succ_eq_append_getElem h', List.map_append]
  congr 1
  simp
  rfl
theorem bytesAt_lt (s : ByteArray) (at_ k : Nat) : ∀ d ∈ bytesAt s at_ k, d < 256 := by
  intro d hd
  obtain ⟨x, _, rfl⟩ := List.mem_map.1 hd
  exact x.toNat_lt
theorem bytesAt_len (s : ByteArray) (at_ k : Nat) : (bytesAt s at_ k).length ≤ k := by
  unfold bytesAt; rw [List.length_map, List.length_take]; omega
theorem val_bytesAt (s : ByteArray) (at_ k : Nat) : Oct.val 256 (bytesAt s at_ k) < 256 ^ k :=
  Oct.val_bound 256 _ (bytesAt_lt s at_ k) k (by decide) (bytesAt_len s at_ k)

theorem or_join (i m x : Nat) (hm : m * 2 ^ i + x < 18446744073709551616) (hx : x < 2 ^ i) : bits .or .u64 (((m * 2 ^ i : Nat)) : Int) (x : Int) = ((m * 2 ^ i + x : Nat) : Int) := by
  rw [u64_or_nat _ _ (by omega) (by omega), nat_join i _ _ (Nat.mul_mod_left _ _) hx]
theorem or256 (m : Nat) (x : UInt8) (hm : m < 256 ^ 7) : bits .or .u64 ((m : Int) * 256) (IntKind.u64.wrap (x.toNat : Int)) = ((m * 256 + x.toNat : Nat) : Int) := by
  have hx : x.toNat < 2 ^ 8 := x.toNat_lt
  have hw : IntKind.u64.wrap (x.toNat : Int) = (x.toNat : Int) := IntWalk.u64_in _ (by omega)
  have h := or_join 8 m x.toNat (by omega) hx
  rw [hw]
  simpa using h

def getR (s : ByteArray) (at_ w : Int) : Nat × Int :=
  if 1 ≤ w ∧ w ≤ 8 ∧ 0 ≤ at_ then (if at_ + w ≤ s.size then (Oct.val 256 (bytesAt s at_.toNat w.toNat), 0) else (0, 5)) else (0, 2)

end C01
end Go.Proofs.Ytcohcanakicmpaa
namespace Go.Proofs.Ytcohcanakicmpaa
open Go.RowKit Go.Peri
namespace C01

set_option maxRecDepth 100000 in
theorem within4 (n w : Nat) (W : World) (hn : n < 18446744073709551616) (h1 : 1 ≤ w) (h2 : w ≤ 16) :
    Calls Try.prog 92 #[.int .u64 n, .int .i64 4, .int .i64 w] W fun e w' => e = .returned (.bool (decide (n < 16 ^ w))) ∧ W = w' := by
  by_cases h8 : w = 16
  · subst h8
    have hd : Hid (decide (n < 16 ^ 16) = true) := by show _ = _; simpa using hn
    go_enter Try.func92, Try.ntmps92
    go_wp2_with fail
    go_ret
    exact ⟨by rw [hd.out]; rfl, rfl⟩
  · have h3 : ¬ (64 : Int) ≤ 4 * (w : Int) := by omega
    have h4 : w < 16 := by omega
    have hd : Hid (((n : Int) / 2 ^ (4 * w) == 0) = decide (n < 16 ^ w)) := by
      show _ = _
      have e : (2 : Int) ^ (4 * w) = ((16 ^ w : Nat) : Int) := by rw [Int.pow_mul]; simp
      rw [e, show ((n : Int) / ((16 ^ w : Nat) : Int)) = ((n / 16 ^ w : Nat) : Int) from rfl]
      by_cases hlt : n < 16 ^ w
      · rw [(pow_ne n 16 w (by decide)).2 hlt]; simp [hlt]
      · have := mt (pow_ne n 16 w (by decide)).1 hlt
        simp only [hlt, decide_false, beq_eq_false_iff_ne]
        omega
    clear h8
    go_enter Try.func92, Try.ntmps92
    go_wp2_with fail
    go_ret
    exact ⟨ret_bool hd.out, rfl⟩

set_option maxRecDepth 100000 in
theorem split4 (n w : Nat) (W : World) (hn : n < 18446744073709551616) (h1 : 1 ≤ w) (h2 : w ≤ 16) :
    Calls Try.prog 93 #[.int .u64 n, .int .i64 4, .int .i64 w] W (Ret (SplitQ W 16 n w)) := by
  obtain ⟨i0, hi, hz, hsz, hby⟩ := info_parts (P := Try.prog) (e := 5) (z := .int .u8 0) (size := 1) (bytes := 1) (by kernel_rfl)
  have hmk : ∀ W : World, (Instr.makeSlice 142 (.int .i64 (w : Int)) (.int .i64 (w : Int))).run Try.prog W = .ok (.slice (some ⟨W.heap.size, 0, none⟩) w w) (W.alloc (.cells (half 16 n w 0).toArray 5)) := by
    intro W
    have := run_make_n (P := Try.prog) 142 5 Try.underlying142 hi hz w (by rw [hby]; omega) (by omega) W
    rw [this, hsz, Nat.mul_one, half_start]
    have e2 : madeCells (Value.int .u8 0).cells w = (List.replicate w (.int .u8 0)).toArray := by
      apply Array.toList_inj.1
      rw [show (Value.int .u8 0).cells = #[Value.int .u8 0] from rfl, toList_madeCells_one]
    rw [e2]
  clear hi hz hsz hby
  have hx0 : Blk (W.alloc (.cells (half 16 n w 0).toArray 5)) W.heap.size (half 16 n w 0).toArray 5 := Blk.new _ _ _
  have HX0 := hid hx0
  clear hx0
  obtain ⟨X0, hX0⟩ : ∃ X, X = (half 16 n w 0).toArray := ⟨_, rfl⟩
  rw [← hX0] at hmk
  have HXX := hid hX0
  clear hX0
  go_enter Try.func93, Try.ntmps93
  go_wp2_with fail
  go_loopw [0, 12] (fun x i wr => ∃ k m : Nat, k ≤ w ∧ i = .int .i64 k ∧ x = .int .u64 m ∧ m < 18446744073709551616 ∧ m = n / 16 ^ k ∧ Below W.heap.size W wr ∧ Blk wr W.heap.size (half 16 n w k).toArray 5) (fun _ i _ => w - (intOf i).toNat)
  case atStart => exact ⟨0, n, Nat.zero_le _, rfl, rfl, hn, by simp, by go_grown, by rw [HXX.out]; exact HX0.out⟩
  case round =>
    obtain ⟨k, m, hk, rfl, rfl, hm, hmn, hb, hx⟩ := hrel
    have HMN := hid hmn
    have HB := hid hb
    have HX := hid hx
    by_cases hlt : k < w
    · have c0 : wr.cell? ⟨W.heap.size, w - 1 - k, none⟩ = some ((half 16 n w k).toArray[w - 1 - k]'(by simp [half_length 16 n w k hk]; omega)) := by
        rw [hx.cell, Array.getElem?_eq_getElem]
      have f0 := hx.free (w - 1 - k)
      have e1 := and15 m
      have hnx := half_next 16 n w k hlt
      rw [← hmn] at hnx
      have HNX := hid hnx
      generalize (half 16 n w k).toArray[w - 1 - k]'(by simp [half_length 16 n w k hk]; omega) = u at c0
      clear hmn hb hx hnx hmk
      go_wp2_with fail
      go_roundw
      case rel =>
        refine ⟨k + 1, m / 16, by omega, by go_num, by go_num, by omega, ?_, ?_, ?_⟩
        · rw [HMN.out, Nat.div_div_eq_div_mul, Nat.pow_succ]
        · exact HB.out.setCell (Nat.le_refl _) _
        · have := HX.out.set (w - 1 - k) (.int .u8 ((m % 16 : Nat) : Int))
          rw [HNX.out] at this
          first | exact this | (simpa using this)
      case measure => simp [intOf]; omega
    · obtain rfl : k = w := by omega
      clear hmn hb hx
      go_wp2_with fail
      go_ret
      exact ⟨_, rfl, rfl, HB.out, by have := HX.out; rwa [half_end] at this⟩


def hexd (d : Nat) : Nat := if d < 10 then 48 + d else 87 + d
theorem hexd_lt (d : Nat) (h : d < 16) : hexd d < 256 := by unfold hexd; split <;> omega

theorem digit_at (d : Nat) (hd : d < 16) (W : World) : (Instr.index 9 (.string ⟨#[48, 49, 50, 51, 52, 53, 54, 55, 56, 57, 97, 98, 99, 100, 101, 102]⟩) (.int .u8 (d : Int))).run Try.prog W = .ok (.int .u8 (hexd d : Nat)) W := by
  match d, hd with
  | 0, _ => (show _ = _); kernel_rfl
  | 1, _ => (show _ = _); kernel_rfl
  | 2, _ => (show _ = _); kernel_rfl
  | 3, _ => (show _ = _); kernel_rfl
  | 4, _ => (show _ = _); kernel_rfl
  | 5, _ => (show _ = _); kernel_rfl
  | 6, _ => (show _ = _); kernel_rfl
  | 7, _ => (show _ = _); kernel_rfl
  | 8, _ => (show _ = _); kernel_rfl
  | 9, _ => (show _ = _); kernel_rfl
  | 10, _ => (show _ = _); kernel_rfl
  | 11, _ => (show _ = _); kernel_rfl
  | 12, _ => (show _ = _); kernel_rfl
  | 13, _ => (show _ = _); kernel_rfl
  | 14, _ => (show _ = _); kernel_rfl
  | 15, _ => (show _ = _); kernel_rfl
  | n + 16, h => exact absurd h (by omega)

def turned (l : List Nat) (k : Nat) : List Nat := (l.take k).map hexd ++ l.drop k
theorem turned_len (l : List Nat) (k : Nat) (h : k ≤ l.length) : (turned l k).length = l.length := by simp [turned]; omega
theorem turned_get (l : List Nat) (k : Nat) (h : k < l.length) : (bytes (turned l k)).toArray[k]? = some (.int .u8 (l[k] : Nat)) := by
  simp [bytes, turned]
  rw [List.getElem?_append_right (by simp; omega)]
  simp [h, Nat.min_eq_left (Nat.le_of_lt h)]
theorem turned_next (l : List Nat) (k : Nat) (h : k < l.length) : (bytes (turned l k)).toArray.setIfInBounds k (.int .u8 (hexd l[k] : Nat)) = (bytes (turned l (k + 1))).toArray := by
  rw [List.setIfInBounds_toArray]
  congr 1
  unfold bytes turned
  rw [← List.map_set (f := fun (d : Nat) => Value.int .u8 (d : Int)) (a := hexd l[k])]
  congr 1
  rw [List.set_append_right _ _ (by simp; omega), List.take_succ_eq_append_getElem h, List.map_append, List.append_assoc]
  congr 1
  rw [show k - ((l.take k).map hexd).length = 0 by simp; omega, List.drop_eq_getElem_cons h]
  rfl

def hexR (n : Nat) (w : Int) : ByteArray × Int :=
  if 1 ≤ w ∧ w ≤ 16 then (if n < 16 ^ w.toNat then (ofNats ((Oct.dg 16 n w.toNat).map hexd), 0) else (ByteArray.empty, 12)) else (ByteArray.empty, 2)

def hv (c : Nat) : Nat := if 48 ≤ c ∧ c ≤ 57 then c - 48 else if 97 ≤ c ∧ c ≤ 102 then c - 87 else 16
end C01
end Go.Proofs.Ytcohcanakicmpaa
namespace Go.Proofs.Ytcohcanakicmpaa
open Go.RowKit Go.Peri
namespace C01

theorem or16 (m x : Nat) (hm : m < 16 ^ 15) (hx : x < 16) : bits .or .u64 ((m : Int) * 16) (x : Int) = ((m * 16 + x : Nat) : Int) := by
  have h := or_join 4 m x (by omega) hx
  simpa using h

/-- The values of the digits of a text. -/
def hvs (s : ByteArray) (k : Nat) : List Nat := (bytesAt s 0 k).map hv
theorem hvs_succ (s : ByteArray) (k : Nat) (h : k < s.size) : hvs s (k + 1) = hvs s k ++ [hv (s[k]'h).toNat] := by
  unfold hvs
  rw [bytesAt_succ s 0 k (by omega), List.map_append]
  simp
theorem hvs_len (s : ByteArray) (k : Nat) : (hvs s k).length ≤ k := by
  unfold hvs; rw [List.length_map]; exact bytesAt_len s 0 k

def unhexR (s : ByteArray) : Nat × Int :=
  if 1 ≤ s.size ∧ s.size ≤ 16 ∧ ∀ d ∈ hvs s s.size, d < 16 then (Oct.val 16 (hvs s s.size), 0) else (0, 3)

theorem hvs_mem (s : ByteArray) (k : Nat) (h : k < s.size) : hv (s[k]'h).toNat ∈ hvs s s.size := by
  unfold hvs bytesAt
  rw [List.drop_zero, List.map_map, show s.size = s.data.toList.length from (Array.length_toList).symm, List.take_length]
  refine List.mem_map.2 ⟨s[k]'h, ?_, rfl⟩
  exact Array.mem_toList_iff.2 (Array.getElem_mem h)

end C01
end Go.Proofs.Ytcohcanakicmpaa
namespace Go.Proofs.Ytcohcanakicmpaa
open Go.RowKit Go.Peri
namespace C01
set_option maxRecDepth 100000 in
theorem fits256 (n w : Nat) (W : World) (hn : n < 18446744073709551616) (h2 : w ≤ 16) :
    Calls Try.prog 90 #[.int .u64 n, .int .u64 256, .int .i64 w] W fun e w' => e = .returned (.bool (decide (n < 256 ^ w))) ∧ W = w' := by
  go_enter Try.func90, Try.ntmps90
  go_wp2_with fail
  go_loop [0, 7] (fun x i => ∃ k m : Nat, k ≤ w ∧ i = .int .i64 k ∧ x = .int .u64 m ∧ m < 18446744073709551616 ∧ m = n / 256 ^ k) (fun _ i => w - (intOf i).toNat)
  case atStart => exact ⟨0, n, Nat.zero_le _, rfl, rfl, hn, by simp⟩
  case round =>
    obtain ⟨k, m, hk, rfl, rfl, hm, hmn⟩ := hrel
    have HM := hid hmn
    clear hmn
    by_cases hlt : k < w
    · go_wp2_with fail
      go_round
      case rel =>
        refine ⟨k + 1, m / 256, by omega, by go_num, by go_num, by omega, ?_⟩
        rw [HM.out, Nat.div_div_eq_div_mul, Nat.pow_succ]
      case measure => simp [intOf]; omega
    · obtain rfl : k = w := by omega
      have hd : Hid (((m : Int) == 0) = decide (n < 256 ^ k)) := by
        show _ = _
        have := pow_ne n 256 k (by decide)
        rw [← HM.out] at this
        by_cases hz : m = 0
        · simp [hz, this.1 hz]
        · have h3 := mt this.2 hz
          simp only [h3, decide_false, beq_eq_false_iff_ne]
          omega
      go_wp2_with fail
      go_ret
      exact ⟨ret_bool hd.out, rfl⟩

set_option maxRecDepth 100000 in
theorem put_any (n : Nat) (w : Int) (W : World) (hn : n < 18446744073709551616) :
    Calls Try.prog 84 #[.int .u64 n, .int .i64 w] W fun e w' => e = .returned (.tuple #[.string (putR n w).1, .int .i64 (putR n w).2]) ∧ Below W.heap.size W w' := by
  by_cases h0 : w < 1
  · have hr : Hid (putR n w = (ByteArray.empty, 2)) := by show _ = _; unfold putR; rw [if_neg (by omega)]
    go_enter Try.func84, Try.ntmps84
    go_wp2_with fail
    go_ret2
    exact ⟨by rw [hr.out]; rfl, Below.refl _ _⟩
  by_cases h8 : 8 < w
  · have hr : Hid (putR n w = (ByteArray.empty, 2)) := by show _ = _; unfold putR; rw [if_neg (by omega)]
    go_enter Try.func84, Try.ntmps84
    go_wp2_with fail
    go_ret2
    exact ⟨by rw [hr.out]; rfl, Below.refl _ _⟩
  obtain ⟨k, rfl⟩ := Int.eq_ofNat_of_zero_le (show 0 ≤ w by omega)
  have hk1 : 1 ≤ k := by omega
  have hk8 : k ≤ 8 := by omega
  clear h0 h8
  by_cases hlt : n < 256 ^ k
  · have hr : Hid (putR n k = (ofNats (Oct.dg 256 n k), 0)) := by show _ = _; unfold putR; rw [if_pos (by omega), Int.toNat_natCast, if_pos hlt]
    have hd : decide (n < 256 ^ k) = true := by simpa using hlt
    have HD := hid hd
    clear hlt hd
    go_enter Try.func84, Try.ntmps84
    go_wp2_with fail
    refine (within8 n k _ hn hk1 hk8).mono ?_
    rw [HD.out]
    rintro e w' ⟨rfl, rfl⟩
    go_wp2_with fail
    refine (split8 n k _ hn hk1 hk8).mono ?_
    rintro e w' ⟨v, rfl, rfl, hb, hx⟩
    have hc := back8 w' W.heap.size (Oct.dg 256 n k) (Oct.dg_lt 256 n (by decide) k) hx k
    rw [Oct.dg_length] at hc
    have HB := hid hb
    clear hb hx
    go_wp2_with fail
    go_ret2
    exact ⟨by rw [hr.out]; rfl, HB.out⟩
  · have hr : Hid (putR n k = (ByteArray.empty, 12)) := by show _ = _; unfold putR; rw [if_pos (by omega), Int.toNat_natCast, if_neg hlt]
    have hd : decide (n < 256 ^ k) = false := by simpa using hlt
    have HD := hid hd
    clear hlt hd
    go_enter Try.func84, Try.ntmps84
    go_wp2_with fail
    refine (within8 n k _ hn hk1 hk8).mono ?_
    rw [HD.out]
    rintro e w' ⟨rfl, rfl⟩
    go_wp2_with fail
    go_ret2
    exact ⟨by rw [hr.out]; rfl, Below.refl _ _⟩
set_option maxRecDepth 100000 in
theorem byte_any (n : Nat) (W : World) (hn : n < 18446744073709551616) :
    Calls Try.prog 67 #[.int .u64 n] W fun e w' => e = .returned (.string (ofNats [n % 256])) ∧ Below W.heap.size W w' := by
  have hx : Blk (W.alloc (.cells (bytes [n % 256]).toArray 5)) W.heap.size (bytes [n % 256]).toArray 5 := Blk.new _ _ _
  have hc := back8 (W.alloc (.cells (bytes [n % 256]).toArray 5)) W.heap.size [n % 256] (by simp; omega) hx 1
  have hb : Below W.heap.size W (W.alloc (.cells (bytes [n % 256]).toArray 5)) := by go_grown
  have HB := hid hb
  clear hx hb
  have e1 : (bytes [n % 256]).toArray = #[.int .u8 ((n % 256 : Nat) : Int)] := rfl
  have e2 : ((n % 256 : Nat) : Int) = (n : Int) % 256 := by omega
  rw [e1, e2] at hc HB
  simp only [List.length_cons, List.length_nil] at hc
  go_enter Try.func67, Try.ntmps67
  go_wp2_with fail
  go_ret
  exact ⟨rfl, HB.out⟩

theorem ofNats_cons (d : Nat) (l : List Nat) : ofNats [d] ++ ofNats l = ofNats (d :: l) := by
  unfold ofNats; rw [ByteArray.mk_append_mk]; rfl
theorem ofNats_size (l : List Nat) : (ofNats l).size = l.length := by simp [ofNats, ByteArray.size]

set_option maxRecDepth 100000 in
theorem rput_any (n : Nat) (w : Int) (W : World) (hn : n < 18446744073709551616) :
    Calls Try.prog 70 #[.int .u64 n, .int .i64 w] W fun e w' => e = .returned (.tuple #[.string (putR n w).1, .int .i64 (putR n w).2]) ∧ Below W.heap.size W w' := by
  by_cases h0 : w < 1
  · have hr : Hid (putR n w = (ByteArray.empty, 2)) := by show _ = _; unfold putR; rw [if_neg (by omega)]
    go_enter Try.func70, Try.ntmps70
    go_wp2_with fail
    go_ret2
    exact ⟨by rw [hr.out]; rfl, Below.refl _ _⟩
  by_cases h8 : 8 < w
  · have hr : Hid (putR n w = (ByteArray.empty, 2)) := by show _ = _; unfold putR; rw [if_neg (by omega)]
    go_enter Try.func70, Try.ntmps70
    go_wp2_with fail
    go_ret2
    exact ⟨by rw [hr.out]; rfl, Below.refl _ _⟩
  obtain ⟨k, rfl⟩ := Int.eq_ofNat_of_zero_le (show 0 ≤ w by omega)
  have hk1 : 1 ≤ k := by omega
  have hk8 : k ≤ 8 := by omega
  clear h0 h8
  by_cases hlt : n < 256 ^ k
  · have hr : Hid (putR n k = (ofNats (Oct.dg 256 n k), 0)) := by show _ = _; unfold putR; rw [if_pos (by omega), Int.toNat_natCast, if_pos hlt]
    have hd : decide (n < 256 ^ k) = true := by simpa using hlt
    have HD := hid hd
    clear hlt hd
    go_enter Try.func70, Try.ntmps70
    go_wp2_with fail
    refine (fits256 n k _ hn (by omega)).mono ?_
    rw [HD.out]
    rintro e w' ⟨rfl, rfl⟩
    go_wp2_with fail
    go_loopw [0, 6, 7] (fun x s i wr => ∃ j m : Nat, ∃ t : ByteArray, j ≤ k ∧ i = .int .i64 j ∧ x = .int .u64 m ∧ s = .string t ∧ m < 18446744073709551616 ∧ m = n / 256 ^ j ∧ t = ofNats (Oct.dg 256 n j) ∧ t.size = j ∧ Below W.heap.size W wr) (fun _ _ i _ => k - (intOf i).toNat)
    case atStart => exact ⟨0, n, _, Nat.zero_le _, rfl, rfl, rfl, hn, by simp, rfl, rfl, Below.refl _ _⟩
    case round =>
      obtain ⟨j, m, t, hj, rfl, rfl, rfl, hm, hmn, ht, hsz, hb⟩ := hrel
      have HMN := hid hmn
      have HB := hid hb
      have HT := hid ht
      by_cases hlt : j < k
      · have htx := byte_any m wr hm
        have hsz1 : (ofNats [m % 256]).size = 1 := rfl
        have hcat : ofNats [m % 256] ++ t = ofNats (Oct.dg 256 n (j + 1)) := by
          rw [ht, ofNats_cons]; show _ = ofNats (n / 256 ^ j % 256 :: _); rw [hmn]
        have HC := hid hcat
        clear hmn hb ht hcat
        generalize ofNats [m % 256] = t1 at htx hsz1 HC
        go_wp2_with fail
        refine htx.mono ?_
        rintro e w2 ⟨rfl, hb2⟩
        have HB2 := hid hb2
        clear hb2
        go_wp2_with fail
        go_roundw
        case rel =>
          refine ⟨j + 1, m / 256, t1 ++ t, by omega, by go_num, by go_num, rfl, by omega, ?_, HC.out, ?_, HB.out.trans (HB2.out.mono HB.out.size)⟩
          · rw [HMN.out, Nat.div_div_eq_div_mul, Nat.pow_succ]
          · rw [ByteArray.size_append, hsz1, hsz]; omega
        case measure => simp [intOf]; omega
      · obtain rfl : j = k := by omega
        clear hmn hb ht
        go_wp2_with fail
        go_ret2
        exact ⟨by rw [hr.out, HT.out]; rfl, HB.out⟩
  · have hr : Hid (putR n k = (ByteArray.empty, 12)) := by show _ = _; unfold putR; rw [if_pos (by omega), Int.toNat_natCast, if_neg hlt]
    have hd : decide (n < 256 ^ k) = false := by simpa using hlt
    have HD := hid hd
    clear hlt hd
    go_enter Try.func70, Try.ntmps70
    go_wp2_with fail
    refine (fits256 n k _ hn (by omega)).mono ?_
    rw [HD.out]
    rintro e w' ⟨rfl, rfl⟩
    go_wp2_with fail
    go_ret2
    exact ⟨by rw [hr.out]; rfl, Below.refl _ _⟩

end C01
end Go.Proofs.Ytcohcanakicmpaa
namespace Go.Proofs.Ytcohcanakicmpaa
open Go.RowKit Go.Peri
namespace C01


set_option maxRecDepth 100000 in
theorem fits16 (n w : Nat) (W : World) (hn : n < 18446744073709551616) (h2 : w ≤ 16) :
    Calls Try.prog 90 #[.int .u64 n, .int .u64 16, .int .i64 w] W fun e w' => e = .returned (.bool (decide (n < 16 ^ w))) ∧ W = w' := by
  go_enter Try.func90, Try.ntmps90
  go_wp2_with fail
  go_loop [0, 7] (fun x i => ∃ k m : Nat, k ≤ w ∧ i = .int .i64 k ∧ x = .int .u64 m ∧ m < 18446744073709551616 ∧ m = n / 16 ^ k) (fun _ i => w - (intOf i).toNat)
  case atStart => exact ⟨0, n, Nat.zero_le _, rfl, rfl, hn, by simp⟩
  case round =>
    obtain ⟨k, m, hk, rfl, rfl, hm, hmn⟩ := hrel
    have HM := hid hmn
    clear hmn
    by_cases hlt : k < w
    · go_wp2_with fail
      go_round
      case rel =>
        refine ⟨k + 1, m / 16, by omega, by go_num, by go_num, by omega, ?_⟩
        rw [HM.out, Nat.div_div_eq_div_mul, Nat.pow_succ]
      case measure => simp [intOf]; omega
    · obtain rfl : k = w := by omega
      have hd : Hid (((m : Int) == 0) = decide (n < 16 ^ k)) := by
        show _ = _
        have := pow_ne n 16 k (by decide)
        rw [← HM.out] at this
        by_cases hz : m = 0
        · simp [hz, this.1 hz]
        · have h3 := mt this.2 hz
          simp only [h3, decide_false, beq_eq_false_iff_ne]
          omega
      go_wp2_with fail
      go_ret
      exact ⟨ret_bool hd.out, rfl⟩


end C01
end Go.Proofs.Ytcohcanakicmpaa
namespace Go.Proofs.Ytcohcanakicmpaa
open Go.RowKit Go.Peri
namespace C01

theorem digit_slice (d : Nat) (hd : d < 16) (W : World) : (Instr.slice 9 (.string ⟨#[48, 49, 50, 51, 52, 53, 54, 55, 56, 57, 97, 98, 99, 100, 101, 102]⟩) (some (.int .i64 (d : Int))) (some (.int .i64 ((d : Int) + 1))) none).run Try.prog W = .ok (.string (ofNats [hexd d])) W := by
  match d, hd with
  | 0, _ => (show _ = _); kernel_rfl
  | 1, _ => (show _ = _); kernel_rfl
  | 2, _ => (show _ = _); kernel_rfl
  | 3, _ => (show _ = _); kernel_rfl
  | 4, _ => (show _ = _); kernel_rfl
  | 5, _ => (show _ = _); kernel_rfl
  | 6, _ => (show _ = _); kernel_rfl
  | 7, _ => (show _ = _); kernel_rfl
  | 8, _ => (show _ = _); kernel_rfl
  | 9, _ => (show _ = _); kernel_rfl
  | 10, _ => (show _ = _); kernel_rfl
  | 11, _ => (show _ = _); kernel_rfl
  | 12, _ => (show _ = _); kernel_rfl
  | 13, _ => (show _ = _); kernel_rfl
  | 14, _ => (show _ = _); kernel_rfl
  | 15, _ => (show _ = _); kernel_rfl
  | n + 16, h => exact absurd h (by omega)

theorem str_at (s : ByteArray) (k : Nat) (h : k < s.size) (W : World) : (Instr.index 9 (.string s) (.int .i64 (k : Int))).run Try.prog W = .ok (.int .u8 ((s[k]'h).toNat : Nat)) W := by
  simp [go_sem, h, Try.underlying9]

end C01
end Go.Proofs.Ytcohcanakicmpaa
namespace Go.Proofs.Ytcohcanakicmpaa
open Go.RowKit Go.Peri
namespace C01

end C01
end Go.Proofs.Ytcohcanakicmpaa
namespace Go.Proofs.Ytcohcanakicmpaa
open Go.RowKit Go.Peri
namespace C01

theorem ofNats_bytes (l : List Nat) (h : ∀ d ∈ l, d < 256) : (ofNats l).data.toList.map UInt8.toNat = l := by
  unfold ofNats
  rw [List.map_map]
  conv => rhs; rw [← List.map_id l]
  refine List.map_congr_left fun d hd => ?_
  have := h d hd
  show (UInt8.ofNat d).toNat = d
  rw [UInt8.toNat_ofNat']; omega
theorem bytesAt_mid (s t : ByteArray) (l : List Nat) (h : ∀ d ∈ l, d < 256) : bytesAt (s ++ ofNats l ++ t) s.size l.length = l := by
  unfold bytesAt
  have hl : (ofNats l).data.toList.length = l.length := by simp [ofNats]
  rw [ByteArray.data_append, ByteArray.data_append, Array.toList_append, Array.toList_append, List.append_assoc,
    show s.size = s.data.toList.length from (Array.length_toList).symm, List.drop_left, ← hl, List.take_left, ofNats_bytes l h]
theorem get_back (s t : ByteArray) (n k : Nat) (h1 : 1 ≤ k) (h2 : k ≤ 8) (hn : n < 256 ^ k) : getR (s ++ ofNats (Oct.dg 256 n k) ++ t) (s.size : Int) (k : Int) = (n, 0) := by
  unfold getR
  have hl := Oct.dg_length 256 n k
  rw [if_pos (by omega), if_pos (by rw [ByteArray.size_append, ByteArray.size_append, ofNats_size, hl]; omega)]
  have e := bytesAt_mid s t (Oct.dg 256 n k) (Oct.dg_lt 256 n (by decide) k)
  rw [hl] at e
  rw [Int.toNat_natCast, Int.toNat_natCast, e, Oct.val_dg 256 n (by decide), Nat.mod_eq_of_lt hn]
theorem hv_hexd (d : Nat) (h : d < 16) : hv (hexd d) = d := by
  unfold hexd
  split
  · unfold hv; rw [if_pos (by omega)]; omega
  · unfold hv; rw [if_neg (by omega), if_pos (by omega)]; omega
theorem hexd_hv (c : Nat) (h : hv c < 16) : hexd (hv c) = c := by
  unfold hv at h ⊢
  split
  · unfold hexd; rw [if_pos (by omega)]; omega
  · split
    · unfold hexd; rw [if_neg (by omega)]; omega
    · rename_i g1 g2; rw [if_neg g1, if_neg g2] at h; omega
theorem hvs_all (s : ByteArray) : hvs s s.size = (s.data.toList.map UInt8.toNat).map hv := by
  unfold hvs bytesAt
  rw [List.drop_zero, show s.size = s.data.toList.length from (Array.length_toList).symm, List.take_length]
theorem unhex_back (n k : Nat) (h1 : 1 ≤ k) (h2 : k ≤ 16) (hn : n < 16 ^ k) : unhexR (ofNats ((Oct.dg 16 n k).map hexd)) = (n, 0) := by
  have hl := Oct.dg_length 16 n k
  have hd := Oct.dg_lt 16 n (by decide) k
  have e : hvs (ofNats ((Oct.dg 16 n k).map hexd)) (ofNats ((Oct.dg 16 n k).map hexd)).size = Oct.dg 16 n k := by
    rw [hvs_all, ofNats_bytes _ (fun d hd' => by
      obtain ⟨x, hx, rfl⟩ := List.mem_map.1 hd'
      exact hexd_lt x (hd x hx)), List.map_map]
    conv => rhs; rw [← List.map_id (Oct.dg 16 n k)]
    exact List.map_congr_left fun d hd' => hv_hexd d (hd d hd')
  unfold unhexR
  rw [e, if_pos ⟨by rw [ofNats_size, List.length_map]; omega, by rw [ofNats_size, List.length_map]; omega, hd⟩, Oct.val_dg 16 n (by decide), Nat.mod_eq_of_lt hn]
theorem hex_back (s : ByteArray) (m : Nat) (h : unhexR s = (m, 0)) : hexR m (s.size : Int) = (s, 0) ∧ m < 18446744073709551616 := by
  unfold unhexR at h
  split at h
  · rename_i g
    obtain ⟨g1, g2, g3⟩ := g
    have hm : Oct.val 16 (hvs s s.size) = m := (Prod.mk.inj h).1
    have hl : (hvs s s.size).length = s.size := by rw [hvs_all, List.length_map, List.length_map]; exact Array.length_toList
    have hlt := Oct.val_lt 16 _ g3
    rw [hl, hm] at hlt
    have hdg := Oct.dg_val 16 (by decide) _ g3 0
    rw [Nat.zero_mul, Nat.zero_add, hl, hm] at hdg
    have hmap : (hvs s s.size).map hexd = s.data.toList.map UInt8.toNat := by
      rw [hvs_all] at g3 ⊢
      rw [List.map_map]
      conv => rhs; rw [← List.map_id (s.data.toList.map UInt8.toNat)]
      refine List.map_congr_left fun c hc => ?_
      exact hexd_hv c (g3 _ (List.mem_map.2 ⟨c, hc, rfl⟩))
    refine ⟨?_, Nat.lt_of_lt_of_le hlt (Nat.le_trans (Nat.pow_le_pow_right (by decide) g2) (by decide))⟩
    unfold hexR
    rw [if_pos (by omega), Int.toNat_natCast, if_pos hlt, hdg, hmap]
    have : ofNats (s.data.toList.map UInt8.toNat) = s := by
      unfold ofNats
      rw [List.map_map]
      have e2 : s.data.toList.map (UInt8.ofNat ∘ UInt8.toNat) = s.data.toList := by
        conv => rhs; rw [← List.map_id s.data.toList]
        refine List.map_congr_left fun c hc => ?_
        simp
      rw [e2]
    rw [this]
  · have := (Prod.mk.inj h).2; omega

theorem put_cases (n : Nat) (w : Int) (s t : ByteArray) : (∃ a, Hid (putR n w = (a, 0)) ∧ Hid (getR (s ++ a ++ t) s.size w = (n, 0)) ∧ (a.size : Int) = w ∧ a.size ≤ 16) ∨ (∃ a e, Hid (putR n w = (a, e)) ∧ ¬ e = 0) := by
  by_cases h1 : 1 ≤ w ∧ w ≤ 8
  · obtain ⟨k, rfl⟩ := Int.eq_ofNat_of_zero_le (show 0 ≤ w by omega)
    by_cases h2 : n < 256 ^ k
    · refine .inl ⟨ofNats (Oct.dg 256 n k), ?_, ?_, ?_, ?_⟩
      · show putR _ _ = _; unfold putR; rw [if_pos h1, Int.toNat_natCast, if_pos h2]
      · show getR _ _ _ = _; exact get_back s t n k (by omega) (by omega) h2
      · rw [ofNats_size, Oct.dg_length]
      · rw [ofNats_size, Oct.dg_length]; omega
    · refine .inr ⟨ByteArray.empty, 12, ?_, by decide⟩
      show putR _ _ = (ByteArray.empty, 12); unfold putR; rw [if_pos h1, Int.toNat_natCast, if_neg h2]
  · refine .inr ⟨ByteArray.empty, 2, ?_, by decide⟩
    show putR _ _ = (ByteArray.empty, 2); unfold putR; rw [if_neg h1]
theorem hex_cases (n : Nat) (w : Int) : (∃ b, Hid (hexR n w = (b, 0)) ∧ Hid (unhexR b = (n, 0)) ∧ (b.size : Int) = w ∧ b.size ≤ 16) ∨ (∃ a e, Hid (hexR n w = (a, e)) ∧ ¬ e = 0) := by
  by_cases h1 : 1 ≤ w ∧ w ≤ 16
  · obtain ⟨k, rfl⟩ := Int.eq_ofNat_of_zero_le (show 0 ≤ w by omega)
    by_cases h2 : n < 16 ^ k
    · refine .inl ⟨ofNats ((Oct.dg 16 n k).map hexd), ?_, ?_, ?_, ?_⟩
      · show hexR _ _ = _; unfold hexR; rw [if_pos h1, Int.toNat_natCast, if_pos h2]
      · show unhexR _ = _; exact unhex_back n k (by omega) (by omega) h2
      · rw [ofNats_size, List.length_map, Oct.dg_length]
      · rw [ofNats_size, List.length_map, Oct.dg_length]; omega
    · refine .inr ⟨ByteArray.empty, 12, ?_, by decide⟩
      show hexR _ _ = (ByteArray.empty, 12); unfold hexR; rw [if_pos h1, Int.toNat_natCast, if_neg h2]
  · refine .inr ⟨ByteArray.empty, 2, ?_, by decide⟩
    show hexR _ _ = (ByteArray.empty, 2); unfold hexR; rw [if_neg h1]
theorem unhex_cases (s : ByteArray) : (∃ m, Hid (unhexR s = (m, 0)) ∧ Hid (hexR m s.size = (s, 0)) ∧ m < 18446744073709551616) ∨ (∃ a e, Hid (unhexR s = (a, e)) ∧ ¬ e = 0) := by
  by_cases h : (unhexR s).2 = 0
  · have e : unhexR s = ((unhexR s).1, 0) := by rw [← h]
    exact .inl ⟨_, e, (hex_back s _ e).1, (hex_back s _ e).2⟩
  · exact .inr ⟨_, _, rfl, h⟩
end C01
end Go.Proofs.Ytcohcanakicmpaa
