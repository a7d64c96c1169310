/- Walks of layer 12 (rule): two rules alike; no condition. Walks of layer 12 (rule): lists of rules alike; no condition. Plain law of layer 12 (rule): by rank, those of one rank as they stood. No program in sight. Plain law of layer 12 (rule): a list that falls is told by those of each rank; the insertion sort is the order by rank. No program in sight. Walks of layer 14 (table): whether rules fall by rank; Whole; no condition. Walks of layer 12 (rule): rules of one's own; no condition. Walks of layer 12 (rule): the order of two rules; no condition. General lemmas: a row that is owned, and the sort's words for rows of k cells. No program in sight. Walks of layer 12 (rule): rules by their rank: the stable sort of few; no condition. -/
import Derived.Test.YtmmmaldpalhjeaaMg08
import Derived.Deep.RegionHeld3
import Derived.Test.YtmmmaldpalhjeaaMg01
import Derived.Sort.LotA
import Derived.Sort.WalkA
import Derived.Test.YtmmmaldpalhjeaaMg07
import Derived.Deep.Cut
import Derived.Test.YtmmmaldpalhjeaaMg06
import Derived.Test.YtmmmaldpalhjeaaMg02
import Derived.Shelf.SlSortCmp.InsertionK
namespace Go.Proofs.Ytmmmaldpalhjeaa
open Go.RowKit Go.Peri
namespace C12
def oneB (a b : Rl) : Bool := decide (a.rank = b.rank) && decide (a.preds = b.preds) && decide (a.target = b.target) && decide (a.ap = b.ap) && decide (a.as_ = b.as_) && decide (a.dp = b.dp) && decide (a.dt = b.dt) && decide (a.mp = b.mp) && decide (a.mirror = b.mirror) && decide (a.sample = b.sample)
theorem oneB_core (a b : Rl) : oneB a b = true ↔ a.core = b.core := by
  constructor
  · intro h
    simp only [oneB, Bool.and_eq_true, decide_eq_true_eq] at h
    exact Rl.core_of h.1.1.1.1.1.1.1.1.1 h.1.1.1.1.1.1.1.1.2 h.1.1.1.1.1.1.1.2 h.1.1.1.1.1.1.2 h.1.1.1.1.1.2 h.1.1.1.1.2 h.1.1.1.2 h.1.1.2 h.1.2 h.2
  · intro h
    obtain ⟨h0, h1, h2, h3, h4, h5, h6, h7, h8, h9⟩ := Rl.core_eq h
    simp [oneB, h0, h1, h2, h3, h4, h5, h6, h7, h8, h9]
theorem one_any {p q' : Nat → Prop} (a b : Rl) (r : Bool) (W : World) (ha : a.At p W) (hp : ∀ b, p b → b < W.heap.size) (hb : b.At q' W) (hq' : ∀ b, q' b → b < W.heap.size) (hla : a.preds.length ≤ 1000000000000) (hlb : b.preds.length ≤ 1000000000000) (hr : oneB a b = r) :
    Calls Try.prog 56 #[.agg #[.int .i64 a.rank, .slice a.pa a.preds.length a.pcap, .string a.target, .int .i64 a.ap, .int .i64 a.as_, .int .i64 a.dp, .int .i64 a.dt, .int .i64 a.mp, .string a.mirror, .int .i64 a.sample], .agg #[.int .i64 b.rank, .slice b.pa b.preds.length b.pcap, .string b.target, .int .i64 b.ap, .int .i64 b.as_, .int .i64 b.dp, .int .i64 b.dt, .int .i64 b.mp, .string b.mirror, .int .i64 b.sample]] W fun e w' => e = .returned (.bool r) ∧ Below W.heap.size W w' := by
  have HP : ∀ q, decide (a.preds = b.preds) = q → Hid (∀ w', Below W.heap.size W w' → Calls Try.prog 111 #[.slice a.pa a.preds.length a.pcap, .slice b.pa b.preds.length b.pcap] w' fun e w'' => e = .returned (.bool q) ∧ Below w'.heap.size w' w'') := fun q hq =>
    hid (fun w' hw => psame_any _ _ a.preds b.preds q w' (RowsOf.below ha hw hp) (fun b h => Nat.lt_of_lt_of_le (hp b h) hw.size) (RowsOf.below hb hw hq') (fun b h => Nat.lt_of_lt_of_le (hq' b h) hw.size) hla hlb hq)
  clear ha hb hp hq' hla hlb
  subst hr
  by_cases e0 : a.rank = b.rank
  rotate_left
  · have hr : oneB a b = false := by simp [oneB, e0]
    rw [hr]
    exact one_0 a b W (by simpa using e0)
  by_cases e1 : a.preds = b.preds
  rotate_left
  · have hr : oneB a b = false := by simp [oneB, e1]
    rw [hr]
    exact one_1 a b W (HP false (by simpa using e1)) (by simpa using e0)
  by_cases e2 : a.target = b.target
  rotate_left
  · have hr : oneB a b = false := by simp [oneB, e2]
    rw [hr]
    exact one_2 a b W (HP true (by simpa using e1)) (by simpa using e0) (by rw [bytes_beq]; simpa using e2)
  by_cases e3 : a.ap = b.ap
  rotate_left
  · have hr : oneB a b = false := by simp [oneB, e3]
    rw [hr]
    exact one_3 a b W (HP true (by simpa using e1)) (by simpa using e0) (by rw [bytes_beq]; simpa using e2) (by simpa using e3)
  by_cases e4 : a.as_ = b.as_
  rotate_left
  · have hr : oneB a b = false := by simp [oneB, e4]
    rw [hr]
    exact one_4 a b W (HP true (by simpa using e1)) (by simpa using e0) (by rw [bytes_beq]; simpa using e2) (by simpa using e3) (by simpa using e4)
  by_cases e5 : a.dp = b.dp
  rotate_left
  · have hr : oneB a b = false := by simp [oneB, e5]
    rw [hr]
    exact one_5 a b W (HP true (by simpa using e1)) (by simpa using e0) (by rw [bytes_beq]; simpa using e2) (by simpa using e3) (by simpa using e4) (by simpa using e5)
  by_cases e6 : a.dt = b.dt
  rotate_left
  · have hr : oneB a b = false := by simp [oneB, e6]
    rw [hr]
    exact one_6 a b W (HP true (by simpa using e1)) (by simpa using e0) (by rw [bytes_beq]; simpa using e2) (by simpa using e3) (by simpa using e4) (by simpa using e5) (by simpa using e6)
  by_cases e7 : a.mp = b.mp
  rotate_left
  · have hr : oneB a b = false := by simp [oneB, e7]
    rw [hr]
    exact one_7 a b W (HP true (by simpa using e1)) (by simpa using e0) (by rw [bytes_beq]; simpa using e2) (by simpa using e3) (by simpa using e4) (by simpa using e5) (by simpa using e6) (by simpa using e7)
  by_cases e8 : a.mirror = b.mirror
  rotate_left
  · have hr : oneB a b = false := by simp [oneB, e8]
    rw [hr]
    exact one_8 a b W (HP true (by simpa using e1)) (by simpa using e0) (by rw [bytes_beq]; simpa using e2) (by simpa using e3) (by simpa using e4) (by simpa using e5) (by simpa using e6) (by simpa using e7) (by rw [bytes_beq]; simpa using e8)
  by_cases e9 : a.sample = b.sample
  rotate_left
  · have hr : oneB a b = false := by simp [oneB, e9]
    rw [hr]
    exact one_9 a b W (HP true (by simpa using e1)) (by simpa using e0) (by rw [bytes_beq]; simpa using e2) (by simpa using e3) (by simpa using e4) (by simpa using e5) (by simpa using e6) (by simpa using e7) (by rw [bytes_beq]; simpa using e8) (by simpa using e9)
  have hr : oneB a b = true := by simp [oneB, e0, e1, e2, e3, e4, e5, e6, e7, e8, e9]
  rw [hr]
  exact one_10 a b W (HP true (by simpa using e1)) (by simpa using e0) (by rw [bytes_beq]; simpa using e2) (by simpa using e3) (by simpa using e4) (by simpa using e5) (by simpa using e6) (by simpa using e7) (by rw [bytes_beq]; simpa using e8) (by simpa using e9)
end C12
end Go.Proofs.Ytmmmaldpalhjeaa
namespace Go.Proofs.Ytmmmaldpalhjeaa
open Go.RowKit Go.Peri
namespace C12
def sameB : List Rl → List Rl → Bool
  | [], [] => true
  | a :: l, b :: m => oneB a b && sameB l m
  | _, _ => false
theorem sameB_core : ∀ l m : List Rl, sameB l m = true ↔ l.map Rl.core = m.map Rl.core
  | [], [] => by simp [sameB]
  | [], _ :: _ => by simp [sameB]
  | _ :: _, [] => by simp [sameB]
  | a :: l, b :: m => by
    rw [sameB, Bool.and_eq_true, oneB_core, sameB_core l m, List.map_cons, List.map_cons, List.cons.injEq]
theorem sameB_len {l m : List Rl} (h : l.length ≠ m.length) : sameB l m = false := by
  rw [Bool.eq_false_iff]
  intro hc
  have := congrArg List.length ((sameB_core l m).1 hc)
  simp at this
  exact h this
theorem sameB_hit {l m : List Rl} {k : Nat} (h1 : k < l.length) (h2 : k < m.length) (h : oneB l[k] m[k] = false) : sameB l m = false := by
  rw [Bool.eq_false_iff]
  intro hc
  have he := (sameB_core l m).1 hc
  have : l[k].core = m[k].core := by
    have e1 : (l.map Rl.core)[k]? = (m.map Rl.core)[k]? := by rw [he]
    rw [List.getElem?_map, List.getElem?_map, List.getElem?_eq_getElem h1, List.getElem?_eq_getElem h2] at e1
    simpa using e1
  rw [(oneB_core _ _).2 this] at h
  cases h
theorem sameB_all {l m : List Rl} (hl : l.length = m.length) (h : ∀ j (h1 : j < l.length) (h2 : j < m.length), oneB l[j] m[j] = true) : sameB l m = true := by
  rw [sameB_core]
  refine List.ext_getElem (by simpa using hl) fun j h1 h2 => ?_
  rw [List.getElem_map, List.getElem_map]
  exact (oneB_core _ _).1 (h j (by simpa using h1) (by simpa using h2))
set_option maxRecDepth 100000 in
set_option maxHeartbeats 1000000 in
theorem same_any (u v : Value) (l m : List Rl) (r : Bool) (W : World) (h : RowsOf (· < W.heap.size) Rl.enc 10 W u l) (h2 : RowsOf (· < W.heap.size) Rl.enc 10 W v m) (ha : ∀ x ∈ l, x.At (· < W.heap.size) W) (ha2 : ∀ x ∈ m, x.At (· < W.heap.size) W)
    (hl : l.length ≤ 1000000000000) (hm : m.length ≤ 1000000000000) (hps : ∀ x ∈ l, x.preds.length ≤ 1000000000000) (hps2 : ∀ x ∈ m, x.preds.length ≤ 1000000000000) (hr : sameB l m = r) :
    Calls Try.prog 51 #[u, v] W fun e w' => e = .returned (.bool r) ∧ Below W.heap.size W w' := by
  obtain ⟨a, cap, rfl, hlc, hcm, _, hcell⟩ := h
  obtain ⟨a2, cap2, rfl, hlc2, hcm2, _, hcell2⟩ := h2
  have HC := hid hcell
  have HC2 := hid hcell2
  have HR := hid hr
  have HA := hid ha
  have HA2 := hid ha2
  have HPS := hid hps
  have HPS2 := hid hps2
  clear hcell hcell2 hr ha ha2 hps hps2
  by_cases hlen : l.length = m.length
  · have HLEN := hid hlen
    have hle2 : ((l.length : Int) == (m.length : Int)) = true := by simp [hlen]
    have hle3 : ((m.length : Int) == (m.length : Int)) = true := by simp
    generalize hn : l.length = n at hlen hlc hl HLEN hle2
    have HN := hid hn
    clear hn
    subst hlen
    go_enter Try.func51, Try.ntmps51
    go_wp2_with fail
    go_loopw [5] (fun i wr => ∃ k : Nat, k ≤ m.length ∧ i = .int .i64 k ∧ Below W.heap.size W wr ∧ ∀ j (_ : j < k) (h1 : j < l.length) (h2 : j < m.length), oneB l[j] m[j] = true) (fun i _ => m.length - (intOf i).toNat)
    case atStart => exact ⟨0, Nat.zero_le _, rfl, Below.refl _ _, fun j hj => absurd hj (Nat.not_lt_zero _)⟩
    case round =>
      obtain ⟨k, hk, rfl, hb, hno⟩ := hrel
      have HB := hid hb
      have HE := hid hno
      clear hb hno
      by_cases hlt : k < m.length
      · have hlt1 : k < l.length := by rw [HN.out]; exact hlt
        obtain ⟨b, off, rfl, hpb, hc⟩ := HC.out.resolve_left (by intro e; rw [e] at hlt1; simp at hlt1)
        obtain ⟨b2, off2, rfl, hpb2, hc2⟩ := HC2.out.resolve_left (by intro e; rw [e] at hlt; simp at hlt)
        have hbl : b < wr.heap.size := Nat.lt_of_lt_of_le hpb HB.out.size
        have hbl2 : b2 < wr.heap.size := Nat.lt_of_lt_of_le hpb2 HB.out.size
        obtain ⟨c0, c1, c2, c3, c4, c5, c6, c7, c8, c9⟩ := Rl.cells (fun j u hu => (HB.out.cell (p := ⟨b, off + k * 10 + j, none⟩) hpb).trans (hc k hlt1 j u hu))
        obtain ⟨d0, d1, d2, d3, d4, d5, d6, d7, d8, d9⟩ := Rl.cells (fun j u hu => (HB.out.cell (p := ⟨b2, off2 + k * 10 + j, none⟩) hpb2).trans (hc2 k hlt j u hu))
        have HNext : Hid (oneB l[k] m[k] = true → ∀ j (_ : j < k + 1) (h1 : j < l.length) (h2 : j < m.length), oneB l[j] m[j] = true) := by
          intro he j hj h1 h2
          by_cases e : j = k
          · subst e; exact he
          · exact HE.out j (by omega) h1 h2
        have HHit : Hid (oneB l[k] m[k] = false → r = false) := fun hh => HR.out.symm.trans (sameB_hit hlt1 hlt hh)
        have hx1 := (HA.out l[k] (List.getElem_mem hlt1)).below HB.out (fun _ h => h)
        have hy1 := (HA2.out m[k] (List.getElem_mem hlt)).below HB.out (fun _ h => h)
        have hx2 := HPS.out l[k] (List.getElem_mem hlt1)
        have hy2 := HPS2.out m[k] (List.getElem_mem hlt)
        clear hc hc2
        generalize l[k] = x at c0 c1 c2 c3 c4 c5 c6 c7 c8 c9 HNext HHit hx1 hx2
        generalize m[k] = y at d0 d1 d2 d3 d4 d5 d6 d7 d8 d9 HNext HHit hy1 hy2
        obtain ⟨q, hq⟩ : ∃ q, oneB x y = q := ⟨_, rfl⟩
        have X : Hid (∀ z : BW wr, Calls Try.prog 56 #[.agg #[.int .i64 x.rank, .slice x.pa x.preds.length x.pcap, .string x.target, .int .i64 x.ap, .int .i64 x.as_, .int .i64 x.dp, .int .i64 x.dt, .int .i64 x.mp, .string x.mirror, .int .i64 x.sample], .agg #[.int .i64 y.rank, .slice y.pa y.preds.length y.pcap, .string y.target, .int .i64 y.ap, .int .i64 y.as_, .int .i64 y.dp, .int .i64 y.dt, .int .i64 y.mp, .string y.mirror, .int .i64 y.sample]] z.val fun e w' => e = .returned (.bool q) ∧ Below z.val.heap.size z.val w') :=
          hid (fun z => one_any x y q z.val (hx1.below z.prop (fun b hb => Nat.lt_of_lt_of_le hb HB.out.size)) (fun b hb => Nat.lt_of_lt_of_le hb (Nat.le_trans HB.out.size z.prop.size)) (hy1.below z.prop (fun b hb => Nat.lt_of_lt_of_le hb HB.out.size)) (fun b hb => Nat.lt_of_lt_of_le hb (Nat.le_trans HB.out.size z.prop.size)) hx2 hy2 hq)
        rw [hq] at HNext HHit
        clear hx1 hx2 hy1 hy2 hq
        cases q
        · have HRF := hid (HHit.out rfl)
          clear HHit HNext
          go_wp2_with fail
          refine wp_region_bw (by kernel_rfl) (by kernel_rfl) ?_
          repeat (go_big_quiet_step ((go_at_call 56; exact bw_call (X.out _))))
          refine wpQuiet_nil ?_
          rintro w2 ⟨⟨_, hb2⟩, rfl⟩
          have HB2 : Hid (Below W.heap.size W w2) := HB.out.trans (hb2.mono HB.out.size)
          clear hb2
          go_wp2_with fail
          go_ret
          exact ⟨by rw [HRF.out]; rfl, HB2.out⟩
        · have HN2 := hid (HNext.out rfl)
          clear HHit HNext
          go_wp2_with fail
          refine wp_region_bw (by kernel_rfl) (by kernel_rfl) ?_
          repeat (go_big_quiet_step ((go_at_call 56; exact bw_call (X.out _))))
          refine wpQuiet_nil ?_
          rintro w2 ⟨⟨_, hb2⟩, rfl⟩
          have HB2 : Hid (Below W.heap.size W w2) := HB.out.trans (hb2.mono HB.out.size)
          clear hb2
          go_wp2_with fail
          go_roundw
          case rel => exact ⟨k + 1, by omega, by go_num, HB2.out, HN2.out⟩
          case measure => simp [intOf]; omega
      · obtain rfl : k = m.length := by omega
        have HRT : Hid (r = true) := by
          show _ = _
          rw [← HR.out]
          exact sameB_all HN.out (fun j h1 h2 => HE.out j h2 h1 h2)
        go_wp2_with fail
        go_ret
        exact ⟨by rw [HRT.out]; rfl, HB.out⟩
  · have HL : Hid (r = false) := by show _ = _; rw [← HR.out]; exact sameB_len hlen
    have hle2 : ((l.length : Int) == (m.length : Int)) = false := by rw [beq_eq_false_iff_ne]; omega
    clear hlen
    go_enter Try.func51, Try.ntmps51
    go_wp2_with fail
    go_ret
    exact ⟨by rw [HL.out]; rfl, Below.refl _ _⟩
end C12
end Go.Proofs.Ytmmmaldpalhjeaa
namespace Go.Peri
namespace Srt
section
variable {α : Type} (f : α → Int)
/-- Put behind all that are no less. -/
def ins (x : α) : List α → List α
  | [] => [x]
  | y :: l => if f x ≤ f y then y :: ins x l else x :: y :: l
def order (l : List α) : List α := l.foldl (fun out x => ins f x out) []
def Desc (l : List α) : Prop := ∀ i j (hi : i < l.length) (hj : j < l.length), i ≤ j → f l[j] ≤ f l[i]
theorem order_snoc (l : List α) (x : α) : order f (l ++ [x]) = ins f x (order f l) := by
  unfold order
  rw [List.foldl_append]
  rfl
theorem ins_length (x : α) : ∀ l : List α, (ins f x l).length = l.length + 1
  | [] => rfl
  | y :: l => by
    unfold ins
    split
    · rw [List.length_cons, ins_length x l, List.length_cons]
    · rfl
theorem order_length (l : List α) : (order f l).length = l.length := by
  suffices h : ∀ (l out : List α), (l.foldl (fun out x => ins f x out) out).length = out.length + l.length by
    have := h l []
    simpa [order] using this
  intro l
  induction l with
  | nil => intro out; rfl
  | cons x l ih =>
    intro out
    show (l.foldl _ (ins f x out)).length = _
    rw [ih, ins_length, List.length_cons]
    omega
theorem ins_at (x : α) : ∀ (out : List α) (j : Nat), j ≤ out.length → (∀ y ∈ out.drop j, f y < f x) → (∀ y ∈ out.take j, f x ≤ f y) → ins f x out = out.take j ++ x :: out.drop j
  | [], j, _, _, _ => by simp [ins]
  | y :: l, 0, _, h1, _ => by
    have := h1 y (by simp)
    unfold ins
    rw [if_neg (by omega)]
    rfl
  | y :: l, j + 1, hj, h1, h2 => by
    have := h2 y (by simp)
    unfold ins
    rw [if_pos this]
    rw [ins_at x l j (by simpa using hj) (fun z hz => h1 z (by simpa using hz)) (fun z hz => h2 z (by simp [hz]))]
    rfl
theorem desc_take {out : List α} (h : Desc f out) {x : α} {j : Nat} (hj : j < out.length) (hx : f x ≤ f out[j]) : ∀ y ∈ out.take (j + 1), f x ≤ f y := by
  intro y hy
  obtain ⟨i, hi, rfl⟩ := List.mem_iff_getElem.1 hy
  rw [List.length_take] at hi
  rw [List.getElem_take]
  have := h i j (by omega) hj (by omega)
  omega
theorem desc_drop {out : List α} (h : Desc f out) {x : α} {j : Nat} (hj : j < out.length) (hx : f out[j] < f x) : ∀ y ∈ out.drop j, f y < f x := by
  intro y hy
  obtain ⟨i, hi, rfl⟩ := List.mem_iff_getElem.1 hy
  rw [List.length_drop] at hi
  rw [List.getElem_drop]
  have := h j (j + i) hj (by omega) (by omega)
  omega
theorem ins_mem (x z : α) : ∀ l : List α, z ∈ ins f x l ↔ z = x ∨ z ∈ l
  | [] => by simp [ins]
  | y :: l => by
    unfold ins
    split
    · rw [List.mem_cons, ins_mem x z l, List.mem_cons]
      exact ⟨fun h => h.elim (fun h => .inr (.inl h)) (fun h => h.elim .inl (fun h => .inr (.inr h))), fun h => h.elim (fun h => .inr (.inl h)) (fun h => h.elim .inl (fun h => .inr (.inr h)))⟩
    · rw [List.mem_cons]
theorem order_mem (z : α) (l : List α) : z ∈ order f l ↔ z ∈ l := by
  suffices h : ∀ (l out : List α), z ∈ l.foldl (fun out x => ins f x out) out ↔ z ∈ out ∨ z ∈ l by
    have := h l []
    simpa [order] using this
  intro l
  induction l with
  | nil => intro out; simp
  | cons x l ih =>
    intro out
    show z ∈ l.foldl _ (ins f x out) ↔ _
    rw [ih, ins_mem, List.mem_cons]
    exact ⟨fun h => h.elim (fun h => h.elim (fun h => .inr (.inl h)) .inl) (fun h => .inr (.inr h)), fun h => h.elim (fun h => .inl (.inr h)) (fun h => h.elim (fun h => .inl (.inl h)) .inr)⟩
/-- Falling, as a pairwise fact. -/
def Falls : List α → Prop
  | [] => True
  | x :: l => (∀ y ∈ l, f y ≤ f x) ∧ Falls l
theorem falls_ins (x : α) : ∀ l : List α, Falls f l → Falls f (ins f x l)
  | [], _ => ⟨by simp, trivial⟩
  | y :: l, ⟨h1, h2⟩ => by
    unfold ins
    split
    · rename_i hxy
      exact ⟨fun z hz => ((ins_mem f x z l).1 hz).elim (fun h => h ▸ hxy) (h1 z), falls_ins x l h2⟩
    · rename_i hxy
      refine ⟨fun z hz => ?_, h1, h2⟩
      rcases List.mem_cons.1 hz with rfl | hz
      · omega
      · have := h1 z hz; omega
theorem falls_order (l : List α) : Falls f (order f l) := by
  suffices h : ∀ (l out : List α), Falls f out → Falls f (l.foldl (fun out x => ins f x out) out) by exact h l [] trivial
  intro l
  induction l with
  | nil => intro out h; exact h
  | cons x l ih => intro out h; exact ih _ (falls_ins f x out h)
theorem falls_desc : ∀ l : List α, Falls f l → Desc f l
  | [], _ => fun i j hi => absurd hi (by simp)
  | x :: l, ⟨h1, h2⟩ => by
    intro i j hi hj hij
    match i, j with
    | 0, 0 => exact Int.le_refl _
    | 0, j + 1 => exact h1 _ (List.getElem_mem _)
    | i + 1, j + 1 => exact falls_desc l h2 i j (by simpa using hi) (by simpa using hj) (by omega)
theorem order_desc (l : List α) : Desc f (order f l) := falls_desc f _ (falls_order f l)
/-- Those of one rank stand as they stood. -/
theorem ins_filter (x : α) (k : Int) : ∀ l : List α, Falls f l → (ins f x l).filter (fun y => decide (f y = k)) = l.filter (fun y => decide (f y = k)) ++ (if f x = k then [x] else [])
  | [], _ => by by_cases h : f x = k <;> simp [ins, h]
  | y :: l, ⟨h1, h2⟩ => by
    unfold ins
    split
    · rw [List.filter_cons, List.filter_cons, ins_filter x k l h2]
      split <;> rfl
    · rename_i hxy
      by_cases h : f x = k
      · have hn : (y :: l).filter (fun y => decide (f y = k)) = [] := by
          rw [List.filter_eq_nil_iff]
          intro z hz
          rcases List.mem_cons.1 hz with rfl | hz
          · simp; omega
          · have := h1 z hz; simp; omega
        rw [List.filter_cons, hn]
        simp [h]
      · rw [List.filter_cons]
        simp [h]
theorem order_filter (l : List α) (k : Int) : (order f l).filter (fun y => decide (f y = k)) = l.filter (fun y => decide (f y = k)) := by
  suffices h : ∀ (l out : List α), Falls f out → (l.foldl (fun out x => ins f x out) out).filter (fun y => decide (f y = k)) = out.filter (fun y => decide (f y = k)) ++ l.filter (fun y => decide (f y = k)) by
    have := h l [] trivial
    simpa [order] using this
  intro l
  induction l with
  | nil => intro out _; simp
  | cons x l ih =>
    intro out h
    show (l.foldl _ (ins f x out)).filter _ = _
    rw [ih _ (falls_ins f x out h), ins_filter f x k out h, List.filter_cons]
    by_cases hx : f x = k <;> simp [hx]
/-- What falls already is ordered. -/
theorem order_of_falls (l : List α) (h : Falls f l) : order f l = l := by
  suffices hh : ∀ (l out : List α), Falls f (out ++ l) → l.foldl (fun out x => ins f x out) out = out ++ l by exact hh l [] h
  intro l
  induction l with
  | nil => intro out _; simp
  | cons x l ih =>
    intro out h
    have e : ins f x out = out ++ [x] := by
      rw [ins_at f x out out.length (Nat.le_refl _) (by simp) (fun y hy => ?_)]
      · simp
      · rw [List.take_length] at hy
        have : ∀ (a b : List α), Falls f (a ++ b) → ∀ y ∈ a, ∀ z ∈ b, f z ≤ f y := by
          intro a
          induction a with
          | nil => intro b _ y hy; simp at hy
          | cons w a iha =>
            intro b hab y hy z hz
            rcases List.mem_cons.1 hy with rfl | hy
            · exact hab.1 z (by simp [hz])
            · exact iha b hab.2 y hy z hz
        exact this out (x :: l) h y hy x (by simp)
    show l.foldl _ (ins f x out) = _
    rw [e, ih (out ++ [x]) (by simpa using h)]
    simp
end
end Srt
end Go.Peri
namespace Go.Peri
namespace Srt
section
variable {α : Type} (f : α → Int)
theorem falls_of_desc : ∀ l : List α, Desc f l → Falls f l
  | [], _ => trivial
  | x :: l, h => by
    refine ⟨fun y hy => ?_, falls_of_desc l fun i j hi hj hij => ?_⟩
    · obtain ⟨i, hi, rfl⟩ := List.mem_iff_getElem.1 hy
      exact h 0 (i + 1) (by simp) (by simpa using hi) (by omega)
    · exact h (i + 1) (j + 1) (by simpa using hi) (by simpa using hj) (by omega)
theorem eq_of_filter : ∀ l m : List α, Falls f l → Falls f m → (∀ k, l.filter (fun y => decide (f y = k)) = m.filter (fun y => decide (f y = k))) → l = m
  | [], [], _, _, _ => rfl
  | [], y :: m, _, _, h => by
    have := h (f y)
    simp at this
  | x :: l, [], _, _, h => by
    have := h (f x)
    simp at this
  | x :: l, y :: m, h1, h2, h => by
    have hx := h (f x)
    have hy := h (f y)
    have e : f x = f y := by
      have m1 : x ∈ (y :: m).filter (fun z => decide (f z = f x)) := by rw [← hx]; simp
      have m2 : y ∈ (x :: l).filter (fun z => decide (f z = f y)) := by rw [hy]; simp
      have n1 := (List.mem_filter.1 m1).1
      have n2 := (List.mem_filter.1 m2).1
      have g1 : f x ≤ f y := by
        rcases List.mem_cons.1 n1 with rfl | n1
        · exact Int.le_refl _
        · exact h2.1 x n1
      have g2 : f y ≤ f x := by
        rcases List.mem_cons.1 n2 with rfl | n2
        · exact Int.le_refl _
        · exact h1.1 y n2
      omega
    have hd : x = y := by
      rw [List.filter_cons, List.filter_cons, if_pos (by simp), if_pos (by simp [e])] at hx
      exact (List.cons.inj hx).1
    subst hd
    congr 1
    refine eq_of_filter l m h1.2 h2.2 fun k => ?_
    have := h k
    rw [List.filter_cons, List.filter_cons] at this
    split at this
    · exact (List.cons.inj this).2
    · exact this
/-- Two neighbours exchanged. -/
theorem swap_split : ∀ (l : List α) (j : Nat) (h : j + 1 < l.length), ∃ a b, l = a ++ l[j] :: l[j + 1] :: b ∧ a.length = j ∧ (l.set (j + 1) l[j]).set j l[j + 1] = a ++ l[j + 1] :: l[j] :: b
  | x :: y :: l, 0, _ => ⟨[], l, rfl, rfl, rfl⟩
  | x :: l, j + 1, h => by
    have hj : j + 1 < l.length := by simpa using h
    obtain ⟨a, b, h1, h2, h3⟩ := swap_split l j hj
    refine ⟨x :: a, b, ?_, by simp [h2], ?_⟩
    · show x :: l = x :: (a ++ l[j] :: l[j + 1] :: b)
      rw [← h1]
    · show x :: (l.set (j + 1) l[j]).set j l[j + 1] = x :: (a ++ l[j + 1] :: l[j] :: b)
      rw [h3]
  | [x], 0, h => absurd h (by simp)
theorem swap_filter (l : List α) (j : Nat) (h : j + 1 < l.length) (hne : f l[j] ≠ f l[j + 1]) (k : Int) : ((l.set (j + 1) l[j]).set j l[j + 1]).filter (fun y => decide (f y = k)) = l.filter (fun y => decide (f y = k)) := by
  obtain ⟨a, b, h1, _, h3⟩ := swap_split l j h
  rw [h3]
  conv => rhs; rw [h1]
  rw [List.filter_append, List.filter_append]
  congr 1
  generalize l[j] = x at hne
  generalize l[j + 1] = y at hne
  by_cases e1 : f x = k
  · have e2 : ¬ f y = k := by omega
    simp [e1, e2]
  · by_cases e2 : f y = k <;> simp [e1, e2]
variable [Inhabited α]
theorem swp_toList (d : Array α) (j : Nat) (h : j + 1 < d.size) : (Sort.swp d (j + 1) j).toList = (d.toList.set (j + 1) (d.toList[j]'(by simp; omega))).set j (d.toList[j + 1]'(by simpa using h)) := by
  unfold Sort.swp
  rw [Array.toList_setIfInBounds, Array.toList_setIfInBounds, getElem!_pos d j (by omega), getElem!_pos d (j + 1) h]
  rfl
theorem insInner_filter (lt : α → α → Bool) (hlt : ∀ x y, lt x y = decide (f y < f x)) (k : Int) (a : Nat) : ∀ (j : Nat) (d : Array α), j < d.size → (Sort.insInner lt a j d).toList.filter (fun y => decide (f y = k)) = d.toList.filter (fun y => decide (f y = k))
  | 0, d, _ => rfl
  | j + 1, d, h => by
    unfold Sort.insInner
    split
    · rename_i hc
      rw [Bool.and_eq_true, hlt] at hc
      have hr := of_decide_eq_true hc.2
      rw [getElem!_pos d j (by omega), getElem!_pos d (j + 1) h] at hr
      rw [insInner_filter lt hlt k a j _ (by rw [Sort.size_swp]; omega), swp_toList d j h, swap_filter f d.toList j (by simpa using h) (by show f d[j] ≠ f d[j + 1]; omega)]
    · rfl
theorem insOuter_filter (lt : α → α → Bool) (hlt : ∀ x y, lt x y = decide (f y < f x)) (k : Int) (a b : Nat) : ∀ (n i : Nat) (d : Array α), b - i = n → b ≤ d.size → (Sort.insOuter lt a b i d).toList.filter (fun y => decide (f y = k)) = d.toList.filter (fun y => decide (f y = k))
  | 0, i, d, hn, _ => by rw [Sort.insOuter, if_neg (by omega)]
  | n + 1, i, d, hn, hb => by
    rw [Sort.insOuter, if_pos (by omega)]
    have hs : ∀ (j : Nat) (d : Array α), (Sort.insInner lt a j d).size = d.size := by
      intro j
      induction j with
      | zero => intro d; rfl
      | succ j ih =>
        intro d
        unfold Sort.insInner
        split
        · rw [ih, Sort.size_swp]
        · rfl
    rw [insOuter_filter lt hlt k a b n (i + 1) _ (by omega) (by rw [hs]; exact hb), insInner_filter f lt hlt k a i d (by omega)]
omit [Inhabited α] in
theorem swo (lt : α → α → Bool) (hlt : ∀ x y, lt x y = decide (f y < f x)) : Sort.SWO lt where
  irrefl := fun x => by rw [hlt]; simp
  trans := fun x y z h1 h2 => by
    rw [hlt, decide_eq_true_eq] at h1 h2 ⊢
    omega
  ntrans := fun x y z h1 h2 => by
    rw [hlt, decide_eq_false_iff_not] at h1 h2 ⊢
    omega
theorem size_insertionSort (lt : α → α → Bool) (hlt : ∀ x y, lt x y = decide (f y < f x)) (d : Array α) (a b : Nat) (hab : a ≤ b) (hb : b ≤ d.size) : (Sort.insertionSort lt d a b).size = d.size :=
  (Sort.insertionSort_holds (swo f lt hlt) d a b hab hb).1.1
/-- THE INSERTION SORT IS THE ORDER BY RANK. -/
theorem insertionSort_order (lt : α → α → Bool) (hlt : ∀ x y, lt x y = decide (f y < f x)) (d : Array α) : (Sort.insertionSort lt d 0 d.size).toList = order f d.toList := by
  obtain ⟨hp, hs⟩ := Sort.insertionSort_holds (swo f lt hlt) d 0 d.size (Nat.zero_le _) (Nat.le_refl _)
  refine eq_of_filter f _ _ (falls_of_desc f _ fun i j hi hj hij => ?_) (falls_order f _) fun k => ?_
  · rcases Nat.lt_or_eq_of_le hij with hlt2 | rfl
    · have hi2 : i < (Sort.insertionSort lt d 0 d.size).size := by simpa using hi
      have hj2 : j < (Sort.insertionSort lt d 0 d.size).size := by simpa using hj
      have := hs i j (Nat.zero_le _) hlt2 (by rw [← hp.1]; exact hj2)
      rw [hlt, decide_eq_false_iff_not, getElem!_pos _ j hj2, getElem!_pos _ i hi2] at this
      show f (Sort.insertionSort lt d 0 d.size)[j] ≤ f (Sort.insertionSort lt d 0 d.size)[i]
      omega
    · exact Int.le_refl _
  · rw [order_filter]
    exact insOuter_filter f lt hlt k 0 d.size _ 1 d rfl (Nat.le_refl _)
end
end Srt
end Go.Peri
namespace Go.Peri
namespace Srt
theorem ins_map {α β : Type} (f : α → Int) (g : α → β) (f' : β → Int) (h : ∀ x, f' (g x) = f x) (x : α) : ∀ l : List α, (ins f x l).map g = ins f' (g x) (l.map g)
  | [] => rfl
  | y :: l => by
    unfold ins
    rw [List.map_cons]
    show _ = if f' (g x) ≤ f' (g y) then _ else _
    rw [h, h]
    split
    · rw [List.map_cons, ins_map f g f' h x l]
    · rfl
theorem order_map {α β : Type} (f : α → Int) (g : α → β) (f' : β → Int) (h : ∀ x, f' (g x) = f x) (l : List α) : (order f l).map g = order f' (l.map g) := by
  suffices hh : ∀ (l out : List α), (l.foldl (fun out x => ins f x out) out).map g = (l.map g).foldl (fun out x => ins f' x out) (out.map g) by exact hh l []
  intro l
  induction l with
  | nil => intro out; rfl
  | cons x l ih =>
    intro out
    show (l.foldl _ (ins f x out)).map g = (l.map g).foldl _ (ins f' (g x) (out.map g))
    rw [ih, ins_map f g f' h]
end Srt
end Go.Peri
namespace Go.Proofs.Ytmmmaldpalhjeaa
open Go.RowKit Go.Peri
namespace C14
open C12 (wp_gen)
/-- Does the second one outrank the first one, as the machine reckons? -/
def stepB (x y : Rl) : Bool := decide (wrap64 (x.rank - y.rank) < 0)
def fallsB : List Rl → Bool
  | x :: y :: l => !stepB x y && fallsB (y :: l)
  | _ => true
theorem fallsB_hit : ∀ (l : List Rl) (j : Nat) (h : j + 1 < l.length), stepB l[j] l[j + 1] = true → fallsB l = false
  | x :: y :: l, 0, _, hs => by
    have : stepB x y = true := hs
    simp [fallsB, this]
  | x :: y :: l, j + 1, h, hs => by
    have := fallsB_hit (y :: l) j (by simpa using h) hs
    simp [fallsB, this]
  | [x], j, h, _ => absurd h (by simp)
  | [], j, h, _ => absurd h (by simp)
theorem fallsB_all : ∀ (l : List Rl), (∀ j (h : j + 1 < l.length), stepB l[j] l[j + 1] = false) → fallsB l = true
  | x :: y :: l, hs => by
    have h0 : stepB x y = false := hs 0 (by simp)
    have := fallsB_all (y :: l) fun j h => hs (j + 1) (by simpa using h)
    simp [fallsB, h0, this]
  | [x], _ => rfl
  | [], _ => rfl
theorem lit_any (x y : Rl) (c : Int) (w : World) (hc : wrap64 (y.rank - x.rank) = c) :
    Calls Try.prog 137 #[.agg #[.int .i64 x.rank, .slice x.pa x.preds.length x.pcap, .string x.target, .int .i64 x.ap, .int .i64 x.as_, .int .i64 x.dp, .int .i64 x.dt, .int .i64 x.mp, .string x.mirror, .int .i64 x.sample], .agg #[.int .i64 y.rank, .slice y.pa y.preds.length y.pcap, .string y.target, .int .i64 y.ap, .int .i64 y.as_, .int .i64 y.dp, .int .i64 y.dt, .int .i64 y.mp, .string y.mirror, .int .i64 y.sample]] w fun e w' => e = .returned (.int .i64 c) ∧ Below w.heap.size w w' := by
  have HC := hid hc
  clear hc
  go_enter Try.func137, Try.ntmps137
  go_wp2
  go_ret
  exact ⟨by rw [← HC.out]; rfl, by go_grown⟩
set_option maxRecDepth 100000 in
set_option maxHeartbeats 1000000 in
theorem sorted_any (v : Value) (l : List Rl) (r : Bool) (W : World) (h : RowsOf (· < W.heap.size) Rl.enc 10 W v l) (hl : l.length ≤ 1000000000000) (hr : fallsB l = r) :
    Calls Try.prog 136 #[v, .func (.func 137) #[] #[]] W fun e w' => e = .returned (.bool r) ∧ Below W.heap.size W w' := by
  obtain ⟨a, cap, rfl, hlc, hcm, _, hcell⟩ := h
  have HC := hid hcell
  have HR := hid hr
  clear hcell hr
  go_enter Try.func136, Try.ntmps136
  go_wp2_with fail
  go_loopw [5] (fun i wr => ∃ m : Nat, m ≤ l.length ∧ i = .int .i64 ((m : Int) - 1) ∧ Below W.heap.size W wr ∧ ∀ j, m ≤ j + 1 → ∀ (h : j + 1 < l.length), stepB l[j] l[j + 1] = false) (fun i _ => (intOf i).toNat)
  case atStart => exact ⟨l.length, Nat.le_refl _, rfl, Below.refl _ _, fun j h1 h2 => absurd h2 (by omega)⟩
  case round =>
    obtain ⟨m, hm, rfl, hb, hno⟩ := hrel
    have HB := hid hb
    have HE := hid hno
    clear hb hno
    by_cases h2 : 2 ≤ m
    · obtain ⟨q, rfl⟩ : ∃ q, m = q + 2 := ⟨m - 2, by omega⟩
      have hq1 : q + 1 < l.length := by omega
      have hq0 : q < l.length := by omega
      have hi : (((q + 2 : Nat) : Int) - 1) = (q : Int) + 1 := by omega
      rw [hi]
      obtain ⟨b, off, rfl, hpb, hc⟩ := HC.out.resolve_left (by intro e; rw [e] at hq0; simp at hq0)
      have hbl : b < wr.heap.size := Nat.lt_of_lt_of_le hpb HB.out.size
      obtain ⟨c0, c1, c2, c3, c4, c5, c6, c7, c8, c9⟩ := Rl.cells (fun j u hu => (HB.out.cell (p := ⟨b, off + (q + 1) * 10 + j, none⟩) hpb).trans (hc (q + 1) hq1 j u hu))
      obtain ⟨d0, d1, d2, d3, d4, d5, d6, d7, d8, d9⟩ := Rl.cells (fun j u hu => (HB.out.cell (p := ⟨b, off + q * 10 + j, none⟩) hpb).trans (hc q hq0 j u hu))
      have HHit : Hid (stepB l[q] l[q + 1] = true → r = false) := hid (fun h => by rw [← HR.out]; exact fallsB_hit l q hq1 h)
      have HNext : Hid (stepB l[q] l[q + 1] = false → ∀ j, q + 1 ≤ j + 1 → ∀ (h : j + 1 < l.length), stepB l[j] l[j + 1] = false) := hid (fun h j h1 h3 => by
        by_cases e : j = q
        · subst e; exact h
        · exact HE.out j (by omega) h3)
      have HX : Hid (stepB l[q] l[q + 1] = decide (wrap64 (l[q].rank - l[q + 1].rank) < 0)) := hid rfl
      clear hc
      generalize l[q] = y at d0 d1 d2 d3 d4 d5 d6 d7 d8 d9 HHit HNext HX
      generalize l[q + 1] = x at c0 c1 c2 c3 c4 c5 c6 c7 c8 c9 HHit HNext HX
      obtain ⟨c, hcc⟩ : ∃ c, wrap64 (y.rank - x.rank) = c := ⟨_, rfl⟩
      have X : Hid (∀ z : BW wr, Calls Try.prog 137 #[.agg #[.int .i64 x.rank, .slice x.pa x.preds.length x.pcap, .string x.target, .int .i64 x.ap, .int .i64 x.as_, .int .i64 x.dp, .int .i64 x.dt, .int .i64 x.mp, .string x.mirror, .int .i64 x.sample], .agg #[.int .i64 y.rank, .slice y.pa y.preds.length y.pcap, .string y.target, .int .i64 y.ap, .int .i64 y.as_, .int .i64 y.dp, .int .i64 y.dt, .int .i64 y.mp, .string y.mirror, .int .i64 y.sample]] z.val fun e w' => e = .returned (.int .i64 c) ∧ Below z.val.heap.size z.val w') := hid (fun z => lit_any x y c z.val hcc)
      rw [hcc] at HX
      clear hcc
      have i0 : (0 : Int) ≤ (q : Int) := by omega
      have i1 : (q : Int) < (l.length : Int) := by omega
      have i2 : (q : Int) + 1 < (l.length : Int) := by omega
      have i3 : (0 : Int) ≤ (q : Int) + 1 := by omega
      have i4 : (0 : Int) < (q : Int) + 1 := by omega
      have e0 : ((q : Int) + 1).toNat = q + 1 := by omega
      have hwq : IntKind.i64.wrap (q : Int) = (q : Int) := by rw [IntKind.wrap_i64]; omega
      by_cases hneg : c < 0
      · have HRF := hid (HHit.out (by rw [HX.out]; exact decide_eq_true hneg))
        clear HHit HNext HX
        go_wp2_with fail
        refine wp_region_bw (by kernel_rfl) (by kernel_rfl) ?_
        repeat (go_big_quiet_step ((go_at_call 137; exact bw_call (X.out _))))
        refine wpQuiet_nil ?_
        rintro w2 ⟨⟨_, hb2⟩, rfl⟩
        have HB2 : Hid (Below W.heap.size W w2) := HB.out.trans (hb2.mono HB.out.size)
        clear hb2
        go_wp2_with fail
        go_ret
        exact ⟨by rw [HRF.out]; rfl, HB2.out⟩
      · have hneg2 : decide (c < 0) = false := decide_eq_false hneg
        have HN2 := hid (HNext.out (by rw [HX.out]; exact hneg2))
        clear HHit HNext HX
        go_wp2_with fail
        refine wp_region_bw (by kernel_rfl) (by kernel_rfl) ?_
        repeat (go_big_quiet_step ((go_at_call 137; exact bw_call (X.out _))))
        refine wpQuiet_nil ?_
        rintro w2 ⟨⟨_, hb2⟩, rfl⟩
        have HB2 : Hid (Below W.heap.size W w2) := HB.out.trans (hb2.mono HB.out.size)
        clear hb2
        go_wp2_with fail
        go_roundw
        case rel => exact ⟨q + 1, by omega, by go_num, HB2.out, HN2.out⟩
        case measure => simp [intOf]
    · have HRT : Hid (r = true) := by
        show _ = _
        rw [← HR.out]
        exact fallsB_all l fun j h => HE.out j (by omega) h
      have i4 : ¬ (0 : Int) < (m : Int) - 1 := by omega
      go_wp2_with fail
      go_ret
      exact ⟨by rw [HRT.out]; rfl, HB.out⟩
def wholeB (n : Int) (f : ByteArray) (l : List Rl) (ns : List ByteArray) : Bool := verR n && decide (cfgR f l ns = 0) && fallsB l
set_option maxRecDepth 100000 in
set_option maxHeartbeats 2000000 in
theorem whole_any (n : Int) (l : List Rl) (a : Option Addr) (cap : Nat) (f : ByteArray) (ns : List ByteArray) (vn : Value) (r : Bool) (W : World) (hr : RowsOf (· < W.heap.size) Rl.enc 10 W (.slice a l.length cap) l) (hw : ∀ r ∈ l, r.Wf W W.heap.size) (hll : l.length ≤ 1000000000000) (hpl : ∀ r ∈ l, r.preds.length ≤ 1000000)
    (hn : RowsOf (· < W.heap.size) sEnc 1 W vn ns) (hl : ns.length ≤ 1000000000000) (hf : f.size ≤ 140737488351232) (hc : wholeB n f l ns = r) :
    Calls Try.prog 75 #[.agg #[.int .i64 n, .slice a l.length cap, .string f], vn] W fun e w' => e = .returned (.bool r) ∧ Below W.heap.size W w' := by
  obtain ⟨q1, hq1⟩ : ∃ q, verR n = q := ⟨_, rfl⟩
  obtain ⟨q2, hq2⟩ : ∃ q, fallsB l = q := ⟨_, rfl⟩
  obtain ⟨d, hd⟩ : ∃ d, cfgR f l ns = d := ⟨_, rfl⟩
  have HV := hid (fun w => version_any n q1 w hq1)
  have HS := hid (fun w' (hb : Below W.heap.size W w') => sorted_any (.slice a l.length cap) l q2 w' ((hr.below hb (fun _ h => h)).imp (fun b hb2 => Nat.lt_of_lt_of_le hb2 hb.size)) hll hq2)
  have HCK := hid (fun w' (hb : Below W.heap.size W w') => check_any l a cap f ns vn d w' ((hr.below hb (fun _ h => h)).imp (fun b hb2 => Nat.lt_of_lt_of_le hb2 hb.size)) (fun r hr' => ⟨((hw r hr').below hb).rows.imp (fun b hb2 => Nat.lt_of_lt_of_le hb2 hb.size), (hw r hr').len, (hw r hr').preds, (hw r hr').rank, (hw r hr').target, (hw r hr').mirror⟩) (fun r hr' => Nat.le_trans (hpl r hr') (by decide)) ((hn.below hb (fun _ h => h)).imp (fun b hb2 => Nat.lt_of_lt_of_le hb2 hb.size)) hl (by omega) hd)
  unfold wholeB at hc
  rw [hq1, hq2, hd] at hc
  have HC := hid hc
  obtain ⟨na, ncap, rfl⟩ := hn.form
  clear hr hw hpl hn hl hd hc hq1 hq2
  go_enter Try.func75, Try.ntmps75
  go_upto_region 1 with fail
  refine wp_gen ?_
  intro w1 hw1
  have hb1 : Below W.heap.size W w1 := by rw [hw1]; go_grown
  have hk1 : Blk w1 W.heap.size #[.int .i64 n, .slice a l.length cap, .string f] 46 := by rw [hw1]; exact Blk.new _ _ _
  clear hw1
  have HB1 := hid hb1
  have HK1 := hid hk1
  have c1 : w1.cell? ⟨W.heap.size, 1, none⟩ = some (.slice a l.length cap) := hk1.cell 1
  clear hb1 hk1
  go_wp2_with fail
  refine (HS.out _ HB1.out).mono ?_
  rintro e w2 ⟨rfl, hb2⟩
  have HB2 := hid (HB1.out.trans (hb2.mono HB1.out.size))
  have hk2 := HK1.out.later hb2
  have d0 : w2.cell? ⟨W.heap.size, 0, none⟩ = some (.int .i64 n) := hk2.cell 0
  have d1 : w2.cell? ⟨W.heap.size, 1, none⟩ = some (.slice a l.length cap) := hk2.cell 1
  have d2 : w2.cell? ⟨W.heap.size, 2, none⟩ = some (.string f) := hk2.cell 2
  clear hb2 hk2 c1
  go_wp2_with fail
  refine (HV.out _).mono ?_
  rintro e w3 ⟨rfl, rfl⟩
  cases q1
  · go_wp2_with fail
    go_ret
    exact ⟨by rw [← HC.out]; rfl, HB2.out⟩
  go_wp2_with fail
  refine (HCK.out _ HB2.out).mono ?_
  rintro e w3 ⟨rfl, hb3⟩
  have HB3 := hid (HB2.out.trans (hb3.mono HB2.out.size))
  clear hb3
  by_cases hd0 : d = 0
  · subst hd0
    cases q2
    · go_wp2_with fail
      go_ret
      exact ⟨by rw [← HC.out]; rfl, HB3.out⟩
    · go_wp2_with fail
      go_ret
      exact ⟨by rw [← HC.out]; rfl, HB3.out⟩
  · have e1 : (d == 0) = false := by simpa using hd0
    go_wp2_with fail
    go_ret
    exact ⟨by rw [← HC.out, decide_eq_false hd0]; rfl, HB3.out⟩
end C14
end Go.Proofs.Ytmmmaldpalhjeaa
namespace Go.Proofs.Ytmmmaldpalhjeaa
open Go.RowKit Go.Peri
namespace C12
theorem elemR : Elem Try.prog 44 60 10 112 := Elem.mk' (z := .agg #[.int .i64 0, .slice none 0 0, .string ByteArray.empty, .int .i64 0, .int .i64 0, .int .i64 0, .int .i64 0, .int .i64 0, .string ByteArray.empty, .int .i64 0]) Try.underlying44 (by kernel_rfl) rfl (by decide)
set_option maxRecDepth 100000 in
theorem rlclone_any {p : Nat → Prop} (v : Value) (l : List Rl) (W : World) (h : RowsOf p Rl.enc 10 W v l) (hp : ∀ b, p b → b < W.heap.size) (hl : l.length ≤ 1000000) :
    Calls Try.prog 149 #[v] W fun e w' => ∃ a cap, e = .returned (.slice a l.length cap) ∧ Below W.heap.size W w' ∧ Hid (w'.ownsRow W.heap.size 60 10 (.slice a l.length cap) l.length (l.flatMap Rl.enc)) := by
  have qnil : ∀ (w : World) (a : Option Addr) (n c : Nat), (binOp .eql 44 (.slice a n c) (.slice none 0 0)).run Try.prog w = .ok (.bool a.isNone) w := fun w a n c => Lib.run_eql_slice_nil w 44 60 a n c 0 0 Try.underlying44
  have HV := hid h
  have HP := hid hp
  obtain ⟨a, cap, rfl, hlc, hcm, hnn, _⟩ := h
  clear hp
  cases a with
  | none =>
    have hc0 := hnn rfl
    subst hc0
    have hl0 : l.length = 0 := by omega
    have hln : l = [] := List.length_eq_zero_iff.1 hl0
    subst hln
    go_enter Try.func149, Try.ntmps149
    go_wp2_with fail
    go_ret
    exact ⟨none, 0, rfl, Below.refl _ _, World.ownsRow_nil _ _ _ _⟩
  | some ad =>
    have HC : Hid (Cellz p 10 (W.alloc (.cells #[] 60)) (.slice (some ad) l.length cap) l.length (l.flatMap Rl.enc)) := (HV.out.below (B := W.heap.size) ((Below.refl _ W).alloc (Nat.le_refl _) _) HP.out).cellz Rl.enc_length
    go_enter Try.func149, Try.ntmps149
    go_wp2_with (at_builtin; refine wpList_pushCells elemR rfl _ _ rfl W.heap.size _ 0 [] rfl (World.ownsRow_made W #[] 0 (Nat.le_refl _) (Nat.zero_le _) (by simp)) rfl HC.out (Rl.one l) ?_ ?_ ?_ ?_)
    · unfold maxLen; omega
    · omega
    · simp
    intro v1 w1 hown hb
    have HB : Hid (Below W.heap.size W w1) := ((Below.refl _ W).alloc (Nat.le_refl _) _).trans hb
    have hown2 : w1.ownsRow W.heap.size 60 10 v1 l.length (l.flatMap Rl.enc) := by simpa using hown
    have hr : RowsOf (fun b => W.heap.size ≤ b ∧ b < w1.heap.size) Rl.enc 10 w1 v1 l := RowsOf.of_owns Rl.enc_length hown2
    have HR := hid hown2
    clear hown2
    obtain ⟨a1, cap1, rfl, _⟩ := hr
    clear hown hb
    go_wp2_with fail
    go_ret
    exact ⟨a1, cap1, rfl, HB.out, HR.out⟩

/-- Rules copied: a row of their own, the predicates in rows of their own. -/
def Copied (W : World) (l : List Rl) (v : Value) (w' : World) : Prop :=
  ∃ l1 : List Rl, l1.map Rl.core = l.map Rl.core ∧ Below W.heap.size W w' ∧ w'.ownsRow W.heap.size 60 10 v l.length (l1.flatMap Rl.enc) ∧ ∀ x ∈ l1, x.At (fun b => W.heap.size ≤ b ∧ b < w'.heap.size ∧ b ∉ blocks v) w'
set_option maxRecDepth 100000 in
set_option maxHeartbeats 2000000 in
theorem copied_any {p : Nat → Prop} (v : Value) (l : List Rl) (W : World) (h : RowsOf p Rl.enc 10 W v l) (hp : ∀ b, p b → b < W.heap.size) (hl : l.length ≤ 1000000) (ha : ∀ x ∈ l, x.At (· < W.heap.size) W) (hps : ∀ x ∈ l, x.preds.length ≤ 1000000) :
    Calls Try.prog 108 #[v] W (Ret (Copied W l)) := by
  have HC := hid (rlclone_any v l W h hp hl)
  have HA := hid ha
  have HPS := hid hps
  obtain ⟨a, cap, rfl⟩ := h.form
  clear h ha hps hp
  go_enter Try.func108, Try.ntmps108
  go_wp2_with fail
  refine HC.out.mono ?_
  rintro e w1 ⟨a1, cap1, rfl, hb1, hown⟩
  have HB1 := hid hb1
  have HO := hid hown.out
  clear hown hb1 HC
  go_wp2_with fail
  go_loopw [10] (fun i wr => ∃ k : Nat, k ≤ l.length ∧ i = .int .i64 k ∧ Hid (∃ l1 : List Rl, l1.length = k ∧ l1.map Rl.core = (l.take k).map Rl.core ∧ Below W.heap.size W wr ∧ wr.ownsRow W.heap.size 60 10 (.slice a1 l.length cap1) l.length ((l1 ++ l.drop k).flatMap Rl.enc) ∧ ∀ x ∈ l1, x.At (fun b => W.heap.size ≤ b ∧ b < wr.heap.size ∧ b ∉ blocks (.slice a1 l.length cap1)) wr)) (fun i _ => l.length - (intOf i).toNat)
  case atStart => exact ⟨0, Nat.zero_le _, rfl, hid ⟨[], rfl, rfl, HB1.out, HO.out, fun x hx => by simp at hx⟩⟩
  case round =>
    obtain ⟨k, hk, rfl, hh⟩ := hrel
    by_cases hk2 : k < l.length
    · obtain ⟨l1, hl1, hc1, hb, hown, hat⟩ := hh.out
      clear hh
      obtain ⟨x, hx⟩ : ∃ x, l[k] = x := ⟨_, rfl⟩
      have hm : ∀ h : k < (l1 ++ l.drop k).length, (l1 ++ l.drop k)[k] = x := fun h => (get_mid l1 l k hl1 hk2 h).trans hx
      have hxa : x.At (· < W.heap.size) wr := (HA.out x (by rw [← hx]; exact List.getElem_mem hk2)).below hb (fun _ h => h)
      have hxl := HPS.out x (by rw [← hx]; exact List.getElem_mem hk2)
      obtain ⟨g, cap2, e2, hg1, hg2⟩ := owns_at hown (by omega)
      cases e2
      obtain ⟨cc0, cc1, cc2, cc3, cc4, cc5, cc6, cc7, cc8, cc9⟩ := Rl.cells (y := x) (w := wr) (b := g) (o := k * 10) (fun j u hj => by
        have hj2 : j < 10 := (List.getElem?_eq_some_iff.1 hj).1
        have hlen : (l1 ++ l.drop k).length = l.length := by rw [List.length_append, List.length_drop, hl1]; omega
        rw [hown.cellAt (k * 10 + j) (by omega), flat_get Rl.enc_length _ k (by omega) j hj2]
        rw [hm]
        exact hj)
      have HB := hid hb
      have HOW := hid hown
      have HAT := hid hat
      have HL1 := hid hl1
      have HC1 := hid hc1
      have HX := hid hx
      have HXA := hid hxa
      clear hm
      clear hb hown hat hc1 hx hxa
      clear hl1
      obtain ⟨B1, hB1⟩ : ∃ b, b = wr.alloc (.cells #[.int .i64 x.rank, .slice x.pa x.preds.length x.pcap, .string x.target, .int .i64 x.ap, .int .i64 x.as_, .int .i64 x.dp, .int .i64 x.dt, .int .i64 x.mp, .string x.mirror, .int .i64 x.sample] 60) := ⟨_, rfl⟩
      have hbb : Below wr.heap.size wr B1 := by rw [hB1]; go_grown
      have HPC := hid (pclone_any (p := (· < W.heap.size)) _ x.preds B1 (RowsOf.below (HXA.out) hbb (fun b hb => Nat.lt_of_lt_of_le hb HB.out.size)) (fun b hb => Nat.lt_of_lt_of_le hb (Nat.le_trans HB.out.size hbb.size)) hxl)
      have HBB := hid hbb
      have HE1 := hid hB1
      clear hbb
      rw [hB1] at HPC
      clear hB1
      go_wp2_with fail
      refine HPC.out.mono ?_
      rintro e w3 ⟨pa, pcap, rfl, hb3, hown3⟩
      rw [← HE1.out] at hb3 hown3
      have HB3 := hid (HBB.out.trans (hb3.mono HBB.out.size))
      have HO3 := hid hown3.out
      have hown4 := C04.owns_below HOW.out HB3.out
      have hcl : w3.cell? ⟨g, k * 10 + 1, none⟩ = some (.slice x.pa x.preds.length x.pcap) := by rw [(HB3.out.cell (p := ⟨g, k * 10 + 1, none⟩) hg2)]; exact cc1
      have hfz : w3.frozen? ⟨g, k * 10 + 1, none⟩ = false := hown4.frozenAt _
      have hsz := hb3.size
      have HSZ : wr.heap.size < B1.heap.size := by rw [HE1.out]; simp
      have HR : Hid (∃ l2 : List Rl, l2.length = k + 1 ∧ l2.map Rl.core = (l.take (k + 1)).map Rl.core ∧ Below W.heap.size W (w3.setCell ⟨g, k * 10 + 1, none⟩ (.slice pa x.preds.length pcap)) ∧ (w3.setCell ⟨g, k * 10 + 1, none⟩ (.slice pa x.preds.length pcap)).ownsRow W.heap.size 60 10 (.slice (some ⟨g, 0, none⟩) l.length cap1) l.length ((l2 ++ l.drop (k + 1)).flatMap Rl.enc) ∧ ∀ y ∈ l2, y.At (fun b => W.heap.size ≤ b ∧ b < (w3.setCell ⟨g, k * 10 + 1, none⟩ (.slice pa x.preds.length pcap)).heap.size ∧ b ∉ blocks (.slice (some ⟨g, 0, none⟩) l.length cap1)) (w3.setCell ⟨g, k * 10 + 1, none⟩ (.slice pa x.preds.length pcap))) := by
        have hlen : (l1 ++ l.drop k).length = l.length := by rw [List.length_append, List.length_drop, HL1.out]; omega
        have hon : Only [g] wr (w3.setCell ⟨g, k * 10 + 1, none⟩ (.slice pa x.preds.length pcap)) := (Only.of_below HB3.out).setCell (by simp) _
        have hon3 : Only [g] w3 (w3.setCell ⟨g, k * 10 + 1, none⟩ (.slice pa x.preds.length pcap)) := (Only.refl _ _).setCell (by simp) _
        have hgb : ∀ b, b ∉ blocks (.slice (some ⟨g, 0, none⟩) l.length cap1) ↔ b ≠ g := fun b => by simp [blocks, Value.ownBlock]
        refine ⟨l1 ++ [{ x with pa := pa, pcap := pcap }], by simp [HL1.out], ?_, ?_, ?_, ?_⟩
        · exact map_take_snoc Rl.core l1 l k hk2 _ HC1.out (by rw [HX.out]; rfl)
        · exact HB.out.trans (hon.below HB.out.size (fun b hb => by simp at hb; omega))
        · have hst := (hown4.stored (k * 10 + 1) (.slice pa x.preds.length pcap)).1
          rw [flat_set Rl.enc_length _ k (by omega) 1 _ { x with pa := pa, pcap := pcap } (by decide) (by rw [get_mid l1 l k HL1.out hk2 (by omega), HX.out]; rfl), set_mid l1 l k HL1.out hk2] at hst
          exact hst
        · intro y hy
          rcases List.mem_append.1 hy with hy | hy
          · exact ((HAT.out y hy).only hon (fun b hb => ⟨hb.2.1, by have := (hgb b).1 hb.2.2; simpa using this⟩)).imp (fun b hb => ⟨hb.1, Nat.lt_of_lt_of_le hb.2.1 hon.size, hb.2.2⟩)
          · obtain rfl : y = { x with pa := pa, pcap := pcap } := by simpa using hy
            have h0 : Rl.At (fun b => B1.heap.size ≤ b ∧ b < w3.heap.size) w3 { x with pa := pa, pcap := pcap } := RowsOf.of_owns Prd.enc_length HO3.out
            refine (h0.only hon3 (fun b hb => ⟨hb.2, by simp; omega⟩)).imp (fun b hb => ⟨by have := HB.out.size; omega, Nat.lt_of_lt_of_le hb.2 hon3.size, (hgb b).2 (by omega)⟩)
      clear hb3 hown3 hown4 HPC cc0 cc1 cc2 cc3 cc4 cc5 cc6 cc7 cc8 cc9
      go_wp2_with fail
      go_roundw
      case rel => exact ⟨k + 1, by omega, by go_num, HR⟩
      case measure => simp [intOf]; omega
    · obtain rfl : k = l.length := by omega
      obtain ⟨l1, hl1, hc1, hb, hown, hat⟩ := hh.out
      rw [List.take_length] at hc1
      rw [List.drop_length, List.append_nil] at hown
      have HR := hid (show Copied W l (.slice a1 l.length cap1) wr from ⟨l1, hc1, hb, hown, hat⟩)
      clear hl1 hc1 hb hown hat hh
      go_wp2_with fail
      go_ret
      exact ⟨_, rfl, HR.out⟩
end C12
end Go.Proofs.Ytmmmaldpalhjeaa
namespace Go.Proofs.Ytmmmaldpalhjeaa
open Go.RowKit Go.Peri
namespace C12
/-- What the order says of two ranks. -/
def cmpR (x y : Int) : Int := if y < x then -1 else if x < y then 1 else 0
set_option maxRecDepth 100000 in
theorem cmp_any (v0 v1 v2 v3 v4 v5 v6 v7 v8 u0 u1 u2 u3 u4 u5 u6 u7 u8 : Value) (x y c : Int) (w : World) (hc : cmpR x y = c) :
    Calls Try.prog 110 #[.agg #[.int .i64 x, v0, v1, v2, v3, v4, v5, v6, v7, v8], .agg #[.int .i64 y, u0, u1, u2, u3, u4, u5, u6, u7, u8]] w fun e w' => e = .returned (.int .i64 c) ∧ Below w.heap.size w w' := by
  unfold cmpR at hc
  by_cases h1 : y < x
  · rw [if_pos h1] at hc
    subst hc
    go_enter Try.func110, Try.ntmps110
    go_wp2
    go_ret
    exact ⟨rfl, by go_grown⟩
  rw [if_neg h1] at hc
  by_cases h2 : x < y
  · rw [if_pos h2] at hc
    subst hc
    go_enter Try.func110, Try.ntmps110
    go_wp2
    go_ret
    exact ⟨rfl, by go_grown⟩
  rw [if_neg h2] at hc
  subst hc
  go_enter Try.func110, Try.ntmps110
  go_wp2
  go_ret
  exact ⟨rfl, by go_grown⟩
end C12
end Go.Proofs.Ytmmmaldpalhjeaa
namespace Go.Peri
open Go.RowKit Go.Sort Go.Proofs
section
variable {α : Type} [Inhabited α]
/-- The sort's flat row is the list's. -/
theorem flatK_list {enc : α → List Value} {k : Nat} (hk : ∀ x, (enc x).length = k) (l : List α) : flatK enc k l.toArray = (l.flatMap enc).toArray := by
  refine Sort.ext_get! (by simp [flat_length hk]) fun t ht => ?_
  have ht' : t < l.length * k := by simpa using ht
  have k0 : 0 < k := by
    rcases Nat.eq_zero_or_pos k with h | h
    · subst h; simp at ht'
    · exact h
  have hi : t / k < l.length := Nat.div_lt_of_lt_mul (by rw [Nat.mul_comm]; exact ht')
  have hj : t % k < k := Nat.mod_lt _ k0
  have e : t / k * k + t % k = t := by rw [Nat.mul_comm]; exact Nat.div_add_mod t k
  have hg := flat_get hk l _ hi _ hj
  rw [e] at hg
  rw [get_flatK enc k _ t (by simpa using ht')]
  have h1 : (l.toArray[t / k]! : α) = l[t / k] := by rw [getElem!_pos _ _ (by simpa using hi)]; rfl
  rw [h1, getElem!_pos _ _ (by rw [hk]; exact hj), getElem!_pos _ _ (by simpa [flat_length hk] using ht')]
  rw [List.getElem?_eq_getElem (by rw [flat_length hk]; exact ht'), List.getElem?_eq_getElem (by rw [hk]; exact hj)] at hg
  exact (Option.some.inj hg).symm
theorem holdsK_of_owns {enc : α → List Value} {k : Nat} (hk : ∀ x, (enc x).length = k) {w : World} {base g cap : Nat} {e : TypeId} {l : List α} (h : w.ownsRow base e k (.slice (some ⟨g, 0, none⟩) l.length cap) l.length (l.flatMap enc)) : HoldsK enc k w g 0 l.toArray := by
  unfold HoldsK
  rw [flatK_list hk]
  intro j hj
  have hj2 : j < l.length * k := by simpa [flat_length hk] using hj
  refine ⟨?_, h.frozenAt _⟩
  rw [Nat.zero_add, h.cellAt j hj2, List.getElem?_eq_getElem (by rw [flat_length hk]; exact hj2)]
  show some _ = some ((List.flatMap enc l).toArray[j]!)
  rw [getElem!_pos (List.flatMap enc l).toArray j hj]
  rfl
theorem owns_sorted {enc : α → List Value} {k : Nat} (hk : ∀ x, (enc x).length = k) {w : World} {base g cap : Nat} {e : TypeId} {l : List α} (h : w.ownsRow base e k (.slice (some ⟨g, 0, none⟩) l.length cap) l.length (l.flatMap enc)) (dk : Array α) (hs : dk.size = l.length) (m : Nat) (os : Array Obj) :
    (sortWorldK enc k w g 0 m dk os).ownsRow base e k (.slice (some ⟨g, 0, none⟩) l.length cap) l.length (dk.toList.flatMap enc) ∧ Only [g] w (sortWorldK enc k w g 0 m dk os) := by
  have hx := h
  rcases h.2 with ⟨h', _⟩ | ⟨g', cap', cur, h', hb, hg, hnc, hcm, hcs, htake⟩
  · simp at h'
  · simp only [Value.slice.injEq, Option.some.injEq, Addr.mk.injEq, and_true, true_and] at h'
    obtain ⟨rfl, rfl⟩ := h'
    have hglt : g < w.heap.size := (Array.getElem?_eq_some_iff.1 hg).1
    have e1 : flatK enc k dk = (dk.toList.flatMap enc).toArray := by
      have := flatK_list hk dk.toList
      simpa using this
    have hblk : (sortWorldK enc k w g 0 m dk os).heap[g]? = some (.cells (putCells id 0 (flatK enc k dk) cur) e (0, 0)) := by
      show ((w.heap.modify g (onCells (putCells id 0 (flatK enc k dk)))) ++ os)[g]? = _
      rw [Array.getElem?_append_left (by simpa using hglt), Array.getElem?_modify, if_pos rfl, hg]
      rfl
    have hlen : (dk.toList.flatMap enc).length = l.length * k := by rw [flat_length hk]; simp [hs]
    refine ⟨⟨hlen, .inr ⟨g, cap, _, rfl, hb, hblk, hnc, hcm, by simpa [putCells] using hcs, ?_⟩⟩, ?_⟩
    · refine List.ext_getElem? fun t => ?_
      by_cases ht : t < l.length * k
      · have hcl : l.length * k ≤ cap * k := Nat.mul_le_mul_right _ hnc
        rw [List.getElem?_take, if_pos ht, Array.getElem?_toList]
        unfold putCells
        rw [Array.getElem?_mapIdx, Array.getElem?_eq_getElem (by omega), Option.map_some, if_pos ⟨Nat.zero_le _, by rw [size_flatK, hs]; omega⟩, Nat.sub_zero, e1, getElem!_pos _ _ (by simpa [hlen] using ht), List.getElem?_eq_getElem (by omega)]
        rfl
      · rw [List.getElem?_take, if_neg ht, List.getElem?_eq_none (by omega)]
    · refine ⟨rfl, rfl, rfl, ?_, fun j hj hn => ?_⟩
      · show w.heap.size ≤ ((w.heap.modify g (onCells (putCells id 0 (flatK enc k dk)))) ++ os).size
        simp
      · show ((w.heap.modify g (onCells (putCells id 0 (flatK enc k dk)))) ++ os)[j]? = _
        rw [Array.getElem?_append_left (by simpa using hj), Array.getElem?_modify, if_neg (by simpa using fun h => hn (by simp [h]))]
end
end Go.Peri
namespace Go.Proofs.Ytmmmaldpalhjeaa
open Go.RowKit Go.Peri Go.Shelf Go.Lib Go.Sort
namespace C12
def rho : Ren := ⟨fun _ => 193, fun t => if t = 0 then 0 else if t = 3 then 3 else if t = 4 then 4 else if t = 22 then 44 else if t = 24 then 60 else 157, fun x => x⟩
theorem bears : Bears Try.prog (rho.f 20) (SlBodyF.n20 rho) := by
  refine ⟨_, ?_, Try.func193⟩
  rfl
theorem lays : SlLaysF0.n20 Try.prog rho where
  mixed := by kernel_rfl
  f20 := bears
  t0 := Try.underlying0
  a0 := Try.isAgg0
  z0 := Try.sizeOf0
  v0 := Try.zeroValue0
  t3 := Try.underlying3
  a3 := Try.isAgg3
  z3 := Try.sizeOf3
  v3 := Try.zeroValue3
  t4 := Try.underlying4
  a4 := Try.isAgg4
  z4 := Try.sizeOf4
  v4 := Try.zeroValue4
  t22 := Try.underlying44
  a22 := Try.isAgg44
  z22 := Try.sizeOf44
  v22 := Try.zeroValue44
  t25 := Try.underlying157
  a25 := Try.isAgg157
  z25 := Try.sizeOf157
  v25 := Try.zeroValue157
def cf (x y : Rl) : Int := cmpR x.rank y.rank
theorem cf_lt (x y : Rl) : ltOf cf x y = decide (y.rank < x.rank) := by
  unfold ltOf cf cmpR
  by_cases h1 : y.rank < x.rank
  · simp [h1]
  · by_cases h2 : x.rank < y.rank <;> simp [h1, h2]
set_option maxRecDepth 100000 in
theorem cmp_lays (x y : Rl) (w : World) : Calls Try.prog 110 #[.agg x.enc.toArray, .agg y.enc.toArray] w fun e w' => e = .returned (.int .i64 (cf x y)) ∧ ∃ q os', w' = grow (w.drewN q) os' := by
  obtain ⟨c, hc⟩ : ∃ c, cf x y = c := ⟨_, rfl⟩
  rw [hc]
  unfold cf cmpR at hc
  show Calls Try.prog 110 #[.agg #[.int .i64 x.rank, .slice x.pa x.preds.length x.pcap, .string x.target, .int .i64 x.ap, .int .i64 x.as_, .int .i64 x.dp, .int .i64 x.dt, .int .i64 x.mp, .string x.mirror, .int .i64 x.sample], .agg #[.int .i64 y.rank, .slice y.pa y.preds.length y.pcap, .string y.target, .int .i64 y.ap, .int .i64 y.as_, .int .i64 y.dp, .int .i64 y.dt, .int .i64 y.mp, .string y.mirror, .int .i64 y.sample]] w _
  by_cases h1 : y.rank < x.rank
  · rw [if_pos h1] at hc
    subst hc
    go_enter Try.func110, Try.ntmps110
    go_wp2
    go_ret
    exact ⟨rfl, 0, _, by rw [alloc_eq_grow, alloc_eq_grow, grow_grow]; rfl⟩
  rw [if_neg h1] at hc
  by_cases h2 : x.rank < y.rank
  · rw [if_pos h2] at hc
    subst hc
    go_enter Try.func110, Try.ntmps110
    go_wp2
    go_ret
    exact ⟨rfl, 0, _, by rw [alloc_eq_grow, alloc_eq_grow, grow_grow]; rfl⟩
  rw [if_neg h2] at hc
  subst hc
  go_enter Try.func110, Try.ntmps110
  go_wp2
  go_ret
  exact ⟨rfl, 0, _, by rw [alloc_eq_grow, alloc_eq_grow, grow_grow]; rfl⟩
theorem eg110 : ∀ args w, (callFunc 110 args).run Try.prog w = .ok (.enter 110 args) w := enters_of Try.func110 (by kernel_rfl) rfl
theorem insertion_any (blk off cap a b : Nat) (d : Array Rl) (w : World) (hH : HoldsK Rl.enc 10 w blk off d) (hblk : blk < w.heap.size) (hab : a ≤ b) (hb : b ≤ d.size) (hsz : d.size < 4611686018427387904) :
    Calls Try.prog 193 #[.slice (some ⟨blk, off, none⟩) d.size cap, .int .i64 a, .int .i64 b, .func (.func 110) #[] #[]] w fun e w' =>
      e = .returned (.tuple #[]) ∧ ∃ n os, w' = sortWorldK Rl.enc 10 w blk off n (Sort.insertionSort (ltOf cf) d a b) os :=
  AnyQ.insertionSortCmpFunc lays 10 Try.isAgg60 Try.sizeOf60 Rl.enc Rl.enc_length (fun x v hv => Rl.one [x] v (by simpa using hv)) cf 110 #[] blk off cap a b d w eg110 (fun _ _ _ _ x y => cmp_lays x y _) hH hblk hab hb hsz
end C12
end Go.Proofs.Ytmmmaldpalhjeaa
