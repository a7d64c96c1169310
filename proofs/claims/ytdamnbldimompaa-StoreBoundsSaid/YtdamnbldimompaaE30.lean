/- Walks of layer 30 (store): where a trace stands, where a span's number stands; no condition. -/
import Derived.Test.YtdamnbldimompaaD30
namespace Go.Proofs.Ytdamnbldimompaa
open Go.RowKit Go.Peri
namespace C30
open Kp (ix ixS)
theorem eqTr (a b c d : Nat) (w : World) : (Op.equalIn 10000 25 (.agg #[.int .u64 a, .int .u64 b]) (.agg #[.int .u64 c, .int .u64 d])).run Try.prog w = .ok (decide (a = c ∧ b = d)) w := by
  rw [show (10000 : Nat) = 9999 + 1 from rfl, run_equalIn_struct w 9999 25 _ _ (by kernel_rfl) (by kernel_rfl)]
  simp only [Program.fieldsOf, Try.underlying25, Op.eqFields]
  go_simp
  by_cases h1 : a = c <;> by_cases h2 : b = d <;> simp [h1, h2] <;> omega
def atK (l : List Kq) (hi lo : Nat) : Int := if ix (l.map Kq.core) hi lo < l.length then ix (l.map Kq.core) hi lo else -1
theorem atK_hit {l : List Kq} {hi lo k : Nat} (hk : k < l.length) (h1 : l[k].hi = hi ∧ l[k].lo = lo) (h2 : ∀ j (_ : j < k) (hj : j < l.length), ¬ (l[j].hi = hi ∧ l[j].lo = lo)) : atK l hi lo = k := by
  have : ix (l.map Kq.core) hi lo = k := Kp.ix_hit (by simpa using hk) (by simpa [Kq.core] using h1) (fun j hj hj2 => by simpa [Kq.core] using h2 j hj (by omega))
  unfold atK
  rw [this, if_pos hk]
theorem atK_none {l : List Kq} {hi lo : Nat} (h2 : ∀ j (hj : j < l.length), ¬ (l[j].hi = hi ∧ l[j].lo = lo)) : atK l hi lo = -1 := by
  unfold atK
  rw [if_neg]
  intro h
  have := Kp.at_ix (l := l.map Kq.core) (hi := hi) (lo := lo) (by simpa using h)
  simp only [List.getElem_map, Kq.core] at this
  exact h2 _ h this
set_option maxRecDepth 100000 in
theorem flit_any (y : Kq) (hi lo : Nat) (B : Nat) (w : World) (hB : B < w.heap.size) (h0 : w.cell? ⟨B, 0, none⟩ = some (.int .u64 hi)) (h1 : w.cell? ⟨B, 1, none⟩ = some (.int .u64 lo)) :
    Calls Try.prog 39 #[.agg y.enc.toArray, .pointer (some ⟨B, 0, none⟩)] w fun e w' => e = .returned (.bool (decide (y.hi = hi ∧ y.lo = lo))) ∧ Below w.heap.size w w' := by
  have hne : B ≠ w.heap.size := by omega
  have hee := eqTr y.hi y.lo hi lo
  generalize decide (y.hi = hi ∧ y.lo = lo) = q at hee ⊢
  simp only [Kq.enc]
  go_enter Try.func39, Try.ntmps39
  go_wp2_with fail
  go_ret
  exact ⟨rfl, by go_grown⟩
set_option maxRecDepth 100000 in
theorem findex_any {p : Nat → Prop} (v : Value) (l : List Kq) (hi lo : Nat) (B : Nat) (W : World) (h : RowsOf p Kq.enc 5 W v l) (hp : ∀ b, p b → b < W.heap.size) (hl : l.length ≤ 9223372036854775807) (hB : B < W.heap.size) (h0 : W.cell? ⟨B, 0, none⟩ = some (.int .u64 hi)) (h1 : W.cell? ⟨B, 1, none⟩ = some (.int .u64 lo)) :
    Calls Try.prog 38 #[v, .func (.func 39) #[] #[.pointer (some ⟨B, 0, none⟩)]] W fun e w' => e = .returned (.int .i64 (atK l hi lo)) ∧ Below W.heap.size W w' := by
  obtain ⟨a, cap, rfl, hlc, hcm, _, hcell⟩ := h
  have HC := hid hcell
  have HP := hid hp
  have HC0 := hid h0
  have HC1 := hid h1
  clear hcell hp h0 h1
  go_enter Try.func38, Try.ntmps38
  go_wp2_with fail
  go_loopw [5, 8] (fun _ i wr => ∃ k : Nat, k ≤ l.length ∧ i = .int .i64 k ∧ Below W.heap.size W wr ∧ ∀ j (_ : j < k) (hj : j < l.length), ¬ (l[j].hi = hi ∧ l[j].lo = lo)) (fun _ i _ => l.length - (intOf i).toNat)
  case atStart => exact ⟨0, Nat.zero_le _, rfl, Below.refl _ _, fun j hj => absurd hj (Nat.not_lt_zero _)⟩
  case round =>
    obtain ⟨k, hk, rfl, hb, hno⟩ := hrel
    have HB := hid hb
    have HN := hid hno
    clear hb hno
    by_cases hlt : k < l.length
    · obtain ⟨b, off, rfl, hpb, hc⟩ := HC.out.resolve_left (by intro e; rw [e] at hlt; simp at hlt)
      have hbl := HP.out b hpb
      obtain ⟨c0, c1, c2, c3, c4⟩ := Kq.cells (fun j u hu => (HB.out.cell (p := ⟨b, off + k * 5 + j, none⟩) hbl).trans (hc k hlt j u hu))
      have HLit := hid (flit_any l[k] hi lo B wr (Nat.lt_of_lt_of_le hB HB.out.size) ((HB.out.cell (p := ⟨B, 0, none⟩) hB).trans HC0.out) ((HB.out.cell (p := ⟨B, 1, none⟩) hB).trans HC1.out))
      have HNext : Hid (∀ j (_ : j < k + 1) (hj : j < l.length), decide (l[k].hi = hi ∧ l[k].lo = lo) = false → ¬ (l[j].hi = hi ∧ l[j].lo = lo)) := by
        intro j hj hjl hne
        by_cases e : j = k
        · subst e; exact of_decide_eq_false hne
        · exact HN.out j (by omega) hjl
      have HHit : Hid (decide (l[k].hi = hi ∧ l[k].lo = lo) = true → atK l hi lo = k) := fun hh => atK_hit hlt (of_decide_eq_true hh) HN.out
      clear hc
      generalize l[k] = y at c0 c1 c2 c3 c4 HLit HNext HHit
      generalize decide (y.hi = hi ∧ y.lo = lo) = bq at HLit HNext HHit
      cases bq
      · go_wp2_with (go_at_call 39; refine HLit.out.mono ?_; rintro e w1 ⟨rfl, hb1⟩)
        go_roundw
        case rel => exact ⟨k + 1, by omega, by go_num, HB.out.trans (hb1.mono HB.out.size), fun j hj hjl => HNext.out j hj hjl (by first | rfl | trivial)⟩
        case measure => simp [intOf]; omega
      · go_wp2_with (go_at_call 39; refine HLit.out.mono ?_; rintro e w1 ⟨rfl, hb1⟩)
        go_ret
        exact ⟨by rw [HHit.out (by first | rfl | trivial)]; rfl, HB.out.trans (hb1.mono HB.out.size)⟩
    · obtain rfl : k = l.length := by omega
      go_wp2_with fail
      go_ret
      exact ⟨by rw [atK_none (fun j hj => HN.out j hj hj)]; rfl, HB.out⟩
set_option maxRecDepth 100000 in
theorem find_any {p : Nat → Prop} (v : Value) (l : List Kq) (hi lo : Nat) (r : Int) (W : World) (h : RowsOf p Kq.enc 5 W v l) (hp : ∀ b, p b → b < W.heap.size) (hl : l.length ≤ 9223372036854775807) (hr : atK l hi lo = r) :
    Calls Try.prog 23 #[v, .agg #[.int .u64 hi, .int .u64 lo]] W fun e w' => e = .returned (.int .i64 r) ∧ Below W.heap.size W w' := by
  have HI := hid (findex_any (p := p) v l hi lo W.heap.size (W.alloc (.cells #[.int .u64 hi, .int .u64 lo] 25)) (h.below (B := W.heap.size) ((Below.refl _ W).alloc (Nat.le_refl _) _) hp) (fun b hb => by have := hp b hb; simp; omega) hl (by simp) (by simp [go_sem]) (by simp [go_sem]))
  have HR := hid hr
  clear h hp hr
  go_enter Try.func23, Try.ntmps23
  go_wp2_with fail
  refine HI.out.mono ?_
  rintro e w1 ⟨rfl, hb1⟩
  have HB1 := hid hb1
  clear hb1
  go_wp2_with fail
  go_ret
  exact ⟨by rw [HR.out]; rfl, ((Below.refl _ W).alloc (Nat.le_refl _) _).trans (HB1.out.mono (by simp))⟩
set_option maxRecDepth 100000 in
theorem rat_any {p : Nat → Prop} (v : Value) (l : List Kq) (hi lo : Nat) (r : Int) (W : World) (h : RowsOf p Kq.enc 5 W v l) (hp : ∀ b, p b → b < W.heap.size) (hl : l.length ≤ 9223372036854775807) (hr : atK l hi lo = r) :
    Calls Try.prog 26 #[v, .agg #[.int .u64 hi, .int .u64 lo]] W fun e w' => e = .returned (.int .i64 r) ∧ Below W.heap.size W w' := by
  obtain ⟨a, cap, rfl, hlc, hcm, _, hcell⟩ := h
  have HC := hid hcell
  have HP := hid hp
  have HR := hid hr
  clear hcell hr hp
  go_enter Try.func26, Try.ntmps26
  go_wp2_with fail
  go_loopw [5] (fun i wr => Below W.heap.size W wr ∧ wr.cell? ⟨W.heap.size, 0, none⟩ = some (.int .u64 hi) ∧ wr.cell? ⟨W.heap.size, 1, none⟩ = some (.int .u64 lo) ∧ W.heap.size < wr.heap.size ∧ ∃ k : Nat, k ≤ l.length ∧ i = .int .i64 k ∧ ∀ j (_ : j < k) (hj : j < l.length), ¬ (l[j].hi = hi ∧ l[j].lo = lo)) (fun i _ => l.length - (intOf i).toNat)
  case atStart => exact ⟨by go_grown, by simp, by simp, by simp, 0, Nat.zero_le _, rfl, fun j hj => absurd hj (Nat.not_lt_zero _)⟩
  case round =>
    obtain ⟨hb, g0, g1, g2, k, hk, rfl, hno⟩ := hrel
    have HB := hid hb
    have HN := hid hno
    clear hb hno
    by_cases hlt : k < l.length
    · obtain ⟨b, off, rfl, hpb, hc⟩ := HC.out.resolve_left (by intro e; rw [e] at hlt; simp at hlt)
      obtain ⟨c0, c1, c2, c3, c4⟩ := Kq.cells (fun j u hu => (HB.out.cell (p := ⟨b, off + k * 5 + j, none⟩) (HP.out b hpb)).trans (hc k hlt j u hu))
      have HNext : Hid (¬ (l[k].hi = hi ∧ l[k].lo = lo) → ∀ j (_ : j < k + 1) (hj : j < l.length), ¬ (l[j].hi = hi ∧ l[j].lo = lo)) := by
        intro hne j hj hjl
        by_cases e : j = k
        · subst e; exact hne
        · exact HN.out j (by omega) hjl
      have HHit : Hid (l[k].hi = hi ∧ l[k].lo = lo → atK l hi lo = k) := fun hh => atK_hit hlt hh HN.out
      have hbr : b < wr.heap.size := Nat.lt_of_lt_of_le (HP.out b hpb) HB.out.size
      clear hc
      generalize l[k] = y at c0 c1 c2 c3 c4 HNext HHit
      have hee := eqTr y.hi y.lo hi lo
      by_cases hq : y.hi = hi ∧ y.lo = lo
      · rw [decide_eq_true hq] at hee
        have HX := hid (HHit.out hq)
        clear hq HNext HHit
        go_wp2_with fail
        refine wp_region_bw (by kernel_rfl) (by kernel_rfl) ?_
        repeat (go_big_quiet_step (fail))
        refine wpQuiet_nil ?_
        rintro w2 ⟨⟨_, hb2⟩, rfl⟩
        have HB2 : Hid (Below W.heap.size W w2) := HB.out.trans (hb2.mono HB.out.size)
        have g0' := (hb2.cell (p := ⟨W.heap.size, 0, none⟩) g2).trans g0
        have g1' := (hb2.cell (p := ⟨W.heap.size, 1, none⟩) g2).trans g1
        have g2' : W.heap.size < w2.heap.size := Nat.lt_of_lt_of_le g2 hb2.size
        clear hb2
        go_wp2_with fail
        go_ret
        exact ⟨by rw [← HR.out, HX.out]; rfl, HB2.out⟩
      · rw [decide_eq_false hq] at hee
        have HX := hid (HNext.out hq)
        clear hq HNext HHit
        go_wp2_with fail
        refine wp_region_bw (by kernel_rfl) (by kernel_rfl) ?_
        repeat (go_big_quiet_step (fail))
        refine wpQuiet_nil ?_
        rintro w2 ⟨⟨_, hb2⟩, rfl⟩
        have HB2 : Hid (Below W.heap.size W w2) := HB.out.trans (hb2.mono HB.out.size)
        have g0' := (hb2.cell (p := ⟨W.heap.size, 0, none⟩) g2).trans g0
        have g1' := (hb2.cell (p := ⟨W.heap.size, 1, none⟩) g2).trans g1
        have g2' : W.heap.size < w2.heap.size := Nat.lt_of_lt_of_le g2 hb2.size
        clear hb2
        go_wp2_with fail
        go_roundw
        case rel => exact ⟨HB2.out, g0', g1', g2', k + 1, by omega, by go_num, HX.out⟩
        case measure => simp [intOf]; omega
    · obtain rfl : k = l.length := by omega
      go_wp2_with fail
      go_ret
      exact ⟨by rw [← HR.out, atK_none (fun j hj => HN.out j hj hj)]; rfl, HB.out⟩
end C30
end Go.Proofs.Ytdamnbldimompaa
