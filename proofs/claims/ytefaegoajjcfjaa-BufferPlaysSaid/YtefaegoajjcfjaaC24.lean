/- Walks of layer 24 (opens): where a number stands; no condition. -/
import Derived.Test.YtefaegoajjcfjaaProg
import Derived.Test.YtefaegoajjcfjaaSp
namespace Go.Proofs.Ytefaegoajjcfjaa
open Go.RowKit Go.Peri
namespace C24

theorem eqSp (a b : Sp) (w : World) : (Op.equalIn 10000 79 (.agg #[.int .u64 a.hi, .int .u64 a.lo, .int .u64 a.id, .int .u64 a.up, .string a.name, .int .i64 a.status, .int .i64 a.seq, .int .i64 a.kids, .bool a.shadow, .int .i64 a.start, .int .i64 a.stop]) (.agg #[.int .u64 b.hi, .int .u64 b.lo, .int .u64 b.id, .int .u64 b.up, .string b.name, .int .i64 b.status, .int .i64 b.seq, .int .i64 b.kids, .bool b.shadow, .int .i64 b.start, .int .i64 b.stop])).run Try.prog w = .ok (decide (a = b)) w := by
  rw [show (10000 : Nat) = 9999 + 1 from rfl, run_equalIn_struct w 9999 79 _ _ (by kernel_rfl) (by kernel_rfl)]
  simp only [Program.fieldsOf, Try.underlying79, Op.eqFields]
  go_simp
  have inj : a.name.toList = b.name.toList → a.name = b.name := fun h => Go.WideShapes.bytes_inj (by rw [← ByteArray.toList_eq, ← ByteArray.toList_eq, h])
  have ext : a.hi = b.hi → a.lo = b.lo → a.id = b.id → a.up = b.up → a.name.toList = b.name.toList → a.status = b.status → a.seq = b.seq → a.kids = b.kids → a.shadow = b.shadow → a.start = b.start → a.stop = b.stop → a = b := by
    intro h1 h2 h3 h4 h5 h6 h7 h8 h9 h10 h11
    have h5 := inj h5
    obtain ⟨⟩ := a
    obtain ⟨⟩ := b
    simp_all
  by_cases h : a = b
  · subst h; simp
  · rw [decide_eq_false h]
    repeat' (split <;> try rfl)
    exact absurd (ext (by omega) (by omega) (by omega) (by omega) (by assumption) (by assumption) (by assumption) (by assumption) (by assumption) (by assumption) (by assumption)) h

theorem opn_cells {y : Opn} {w : World} {b o : Nat} (h : ∀ j u, y.enc[j]? = some u → w.cell? ⟨b, o + j, none⟩ = some u) :
    w.cell? ⟨b, o, none⟩ = some (.int .i64 y.no) ∧ w.cell? ⟨b, o + 1, none⟩ = some (.int .u64 y.sp.hi) ∧ w.cell? ⟨b, o + 2, none⟩ = some (.int .u64 y.sp.lo) ∧ w.cell? ⟨b, o + 3, none⟩ = some (.int .u64 y.sp.id) ∧ w.cell? ⟨b, o + 4, none⟩ = some (.int .u64 y.sp.up) ∧ w.cell? ⟨b, o + 5, none⟩ = some (.string y.sp.name) ∧ w.cell? ⟨b, o + 6, none⟩ = some (.int .i64 y.sp.status) ∧ w.cell? ⟨b, o + 7, none⟩ = some (.int .i64 y.sp.seq) ∧ w.cell? ⟨b, o + 8, none⟩ = some (.int .i64 y.sp.kids) ∧ w.cell? ⟨b, o + 9, none⟩ = some (.bool y.sp.shadow) ∧ w.cell? ⟨b, o + 10, none⟩ = some (.int .i64 y.sp.start) ∧ w.cell? ⟨b, o + 11, none⟩ = some (.int .i64 y.sp.stop) :=
  ⟨h 0 _ rfl, h 1 _ rfl, h 2 _ rfl, h 3 _ rfl, h 4 _ rfl, h 5 _ rfl, h 6 _ rfl, h 7 _ rfl, h 8 _ rfl, h 9 _ rfl, h 10 _ rfl, h 11 _ rfl⟩

/-- Where a number stands; the length, if nowhere. -/
def ix (l : List Opn) (no : Int) : Nat := l.findIdx (fun o => o.no == no)
def atR (l : List Opn) (no : Int) : Int := if ix l no < l.length then ix l no else -1
theorem atR_hit {l : List Opn} {no : Int} {k : Nat} (hk : k < l.length) (h1 : l[k].no = no) (h2 : ∀ j (_ : j < k) (hj : j < l.length), l[j].no ≠ no) : atR l no = k := by
  have : ix l no = k := by
    unfold ix
    rw [List.findIdx_eq hk]
    exact ⟨by simpa using h1, fun j hj => by simpa using h2 j hj (by omega)⟩
  unfold atR
  rw [this, if_pos hk]
theorem atR_none {l : List Opn} {no : Int} (h2 : ∀ j (hj : j < l.length), l[j].no ≠ no) : atR l no = -1 := by
  unfold atR
  rw [if_neg]
  intro h
  have := List.findIdx_getElem (w := h)
  exact h2 _ h (by unfold ix; simpa using this)

set_option maxRecDepth 100000 in
theorem lit_any (o : Opn) (no : Int) (B : Nat) (w : World) (hB : B < w.heap.size) (hc : w.cell? ⟨B, 0, none⟩ = some (.int .i64 no)) :
    Calls Try.prog 79 #[.agg o.enc.toArray, .pointer (some ⟨B, 0, none⟩)] w fun e w' => e = .returned (.bool (o.no == no)) ∧ Below w.heap.size w w' := by
  have hne : B ≠ w.heap.size := by omega
  simp only [Opn.enc, Sp.enc]
  go_enter Try.func79, Try.ntmps79
  go_wp2_with fail
  go_ret
  exact ⟨rfl, by go_grown⟩

set_option maxRecDepth 100000 in
theorem index_any {p : Nat → Prop} (v : Value) (l : List Opn) (no : Int) (B : Nat) (W : World) (h : RowsOf p Opn.enc 12 W v l) (hp : ∀ b, p b → b < W.heap.size) (hl : l.length ≤ 9223372036854775807) (hB : B < W.heap.size) (hc : W.cell? ⟨B, 0, none⟩ = some (.int .i64 no)) :
    Calls Try.prog 78 #[v, .func (.func 79) #[] #[.pointer (some ⟨B, 0, none⟩)]] W fun e w' => e = .returned (.int .i64 (atR l no)) ∧ Below W.heap.size W w' := by
  obtain ⟨a, cap, rfl, hlc, hcm, _, hcell⟩ := h
  have HC := hid hcell
  have HP := hid hp
  have HCB := hid hc
  clear hcell hp hc
  go_enter Try.func78, Try.ntmps78
  go_wp2_with fail
  go_loopw [5, 8] (fun _ i wr => ∃ k : Nat, k ≤ l.length ∧ i = .int .i64 k ∧ Below W.heap.size W wr ∧ ∀ j (_ : j < k) (hj : j < l.length), l[j].no ≠ no) (fun _ i _ => l.length - (intOf i).toNat)
  case atStart => exact ⟨0, Nat.zero_le _, rfl, Below.refl _ _, fun j hj => absurd hj (Nat.not_lt_zero _)⟩
  case round =>
    obtain ⟨k, hk, rfl, hb, hno⟩ := hrel
    have HB := hid hb
    have HN := hid hno
    clear hb hno
    by_cases hlt : k < l.length
    · obtain ⟨b, off, rfl, hpb, hc⟩ := HC.out.resolve_left (by intro e; rw [e] at hlt; simp at hlt)
      have hbl := HP.out b hpb
      have hc' : ∀ i (hi : i < l.length) j u, (l[i].enc)[j]? = some u → wr.cell? ⟨b, off + i * 12 + j, none⟩ = some u := fun i hi j u hu => (HB.out.cell (p := ⟨b, _, none⟩) hbl).trans (hc i hi j u hu)
      obtain ⟨c0, c1, c2, c3, c4, c5, c6, c7, c8, c9, c10, c11⟩ := opn_cells (fun j u hu => hc' k hlt j u hu)
      have hlit := lit_any l[k] no B wr (Nat.lt_of_lt_of_le hB HB.out.size) ((HB.out.cell (p := ⟨B, 0, none⟩) hB).trans HCB.out)
      have HLit := hid hlit
      have HNext : Hid (∀ j (_ : j < k + 1) (hj : j < l.length), ¬ (l[k].no == no) = true → l[j].no ≠ no) := by
        intro j hj hjl hne
        by_cases e : j = k
        · subst e; simpa using hne
        · exact HN.out j (by omega) hjl
      have HHit : Hid ((l[k].no == no) = true → atR l no = k) := fun hh => atR_hit hlt (by simpa using hh) HN.out
      clear hc hc' hlit
      generalize l[k] = y at c0 c1 c2 c3 c4 c5 c6 c7 c8 c9 c10 c11 HLit HNext HHit
      obtain ⟨bq, hq⟩ : ∃ bq, (y.no == no) = bq := ⟨_, rfl⟩
      rw [hq] at HLit HNext HHit
      clear hq
      cases bq
      · go_wp2_with (go_at_call 79; refine HLit.out.mono ?_; rintro e w1 ⟨rfl, hb1⟩)
        go_roundw
        case rel => exact ⟨k + 1, by omega, by go_num, HB.out.trans (hb1.mono HB.out.size), fun j hj hjl => HNext.out j hj hjl (by simp)⟩
        case measure => simp [intOf]; omega
      · go_wp2_with (go_at_call 79; refine HLit.out.mono ?_; rintro e w1 ⟨rfl, hb1⟩)
        go_ret
        exact ⟨by rw [HHit.out trivial]; rfl, HB.out.trans (hb1.mono HB.out.size)⟩
    · obtain rfl : k = l.length := by omega
      go_wp2_with fail
      go_ret
      exact ⟨by rw [atR_none (fun j hj => HN.out j hj hj)]; rfl, HB.out⟩
theorem atR_in {l : List Opn} {no : Int} (h : ix l no < l.length) : atR l no = ix l no := if_pos h
theorem atR_out {l : List Opn} {no : Int} (h : ¬ ix l no < l.length) : atR l no = -1 := if_neg h

set_option maxRecDepth 100000 in
theorem at_any {p : Nat → Prop} (v : Value) (l : List Opn) (no r : Int) (W : World) (h : RowsOf p Opn.enc 12 W v l) (hp : ∀ b, p b → b < W.heap.size) (hl : l.length ≤ 9223372036854775807) (hr : atR l no = r) :
    Calls Try.prog 72 #[v, .int .i64 no] W fun e w' => e = .returned (.int .i64 r) ∧ Below W.heap.size W w' := by
  have HI := hid (index_any (p := p) v l no W.heap.size (W.alloc (.cells #[.int .i64 no] 3)) (h.below (B := W.heap.size) ((Below.refl _ W).alloc (Nat.le_refl _) _) hp) (fun b hb => by have := hp b hb; simp; omega) hl (by simp) (by simp [go_sem]))
  have HR := hid hr
  clear h hp hr
  go_enter Try.func72, Try.ntmps72
  go_wp2_with fail
  refine HI.out.mono ?_
  rintro e w1 ⟨rfl, hb1⟩
  have HB1 := hid hb1
  clear hb1
  go_wp2_with fail
  go_ret
  exact ⟨by rw [HR.out]; rfl, ((Below.refl _ W).alloc (Nat.le_refl _) _).trans (HB1.out.mono (by simp))⟩

set_option maxRecDepth 100000 in
theorem rat_any {p : Nat → Prop} (v : Value) (l : List Opn) (no r : Int) (W : World) (h : RowsOf p Opn.enc 12 W v l) (hl : l.length ≤ 9223372036854775807) (hr : atR l no = r) :
    Calls Try.prog 73 #[v, .int .i64 no] W fun e w' => e = .returned (.int .i64 r) ∧ W = w' := by
  obtain ⟨a, cap, rfl, hlc, hcm, _, hcell⟩ := h
  have HC := hid hcell
  have HR := hid hr
  clear hcell hr
  go_enter Try.func73, Try.ntmps73
  go_wp2_with fail
  go_loopw [5] (fun i wr => W = wr ∧ ∃ k : Nat, k ≤ l.length ∧ i = .int .i64 k ∧ ∀ j (_ : j < k) (hj : j < l.length), l[j].no ≠ no) (fun i _ => l.length - (intOf i).toNat)
  case atStart => exact ⟨rfl, 0, Nat.zero_le _, rfl, fun j hj => absurd hj (Nat.not_lt_zero _)⟩
  case round =>
    obtain ⟨rfl, k, hk, rfl, hno⟩ := hrel
    have HN := hid hno
    clear hno
    by_cases hlt : k < l.length
    · obtain ⟨b, off, rfl, hpb, hc⟩ := HC.out.resolve_left (by intro e; rw [e] at hlt; simp at hlt)
      have c0 := hc k hlt 0 _ rfl
      rw [Nat.add_zero] at c0
      have HNext : Hid (∀ j (_ : j < k + 1) (hj : j < l.length), ¬ l[k].no = no → l[j].no ≠ no) := by
        intro j hj hjl hne
        by_cases e : j = k
        · subst e; exact hne
        · exact HN.out j (by omega) hjl
      have HHit : Hid (l[k].no = no → atR l no = k) := fun hh => atR_hit hlt hh HN.out
      clear hc
      generalize l[k].no = y at c0 HNext HHit
      by_cases hq : y = no
      · subst hq
        go_wp2_with fail
        go_ret
        exact ⟨by rw [← HR.out, HHit.out trivial]; rfl, rfl⟩
      · have hq2 : (y == no) = false := by rw [beq_eq_false_iff_ne]; exact hq
        go_wp2_with fail
        go_roundw
        case rel => exact ⟨trivial, k + 1, by omega, by go_num, fun j hj hjl => HNext.out j hj hjl hq⟩
        case measure => simp [intOf]; omega
    · obtain rfl : k = l.length := by omega
      go_wp2_with fail
      go_ret
      exact ⟨by rw [← HR.out, atR_none (fun j hj => HN.out j hj hj)]; rfl, rfl⟩

end C24
end Go.Proofs.Ytefaegoajjcfjaa
