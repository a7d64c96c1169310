/- Walks of layer 30 (store): where a span's number stands; no condition. -/
import Derived.Test.YtdamnbldimompaaG30
namespace Go.Proofs.Ytdamnbldimompaa
open Go.RowKit Go.Peri
namespace C30
open Kp (ix ixS)
def atS (l : List Sp) (id : Nat) : Int := if ixS l id < l.length then ixS l id else -1
theorem ixS_hit {l : List Sp} {id k : Nat} (hk : k < l.length) (h1 : l[k].id = id) (h2 : ∀ j (_ : j < k) (hj : j < l.length), l[j].id ≠ id) : ixS l id = k := by
  unfold ixS
  rw [List.findIdx_eq hk]
  exact ⟨decide_eq_true h1, fun j hj => decide_eq_false (h2 j hj (by omega))⟩
theorem atS_hit {l : List Sp} {id k : Nat} (hk : k < l.length) (h1 : l[k].id = id) (h2 : ∀ j (_ : j < k) (hj : j < l.length), l[j].id ≠ id) : atS l id = k := by
  unfold atS
  rw [ixS_hit hk h1 h2, if_pos hk]
theorem ixS_out {l : List Sp} {id : Nat} (h2 : ∀ j (hj : j < l.length), l[j].id ≠ id) : ¬ ixS l id < l.length := by
  intro h
  have := List.findIdx_getElem (w := h)
  exact h2 _ h (of_decide_eq_true this)
theorem atS_none {l : List Sp} {id : Nat} (h2 : ∀ j (hj : j < l.length), l[j].id ≠ id) : atS l id = -1 := by
  unfold atS
  rw [if_neg (ixS_out h2)]
set_option maxRecDepth 100000 in
theorem plit_any (y : Sp) (id : Nat) (B : Nat) (w : World) (hB : B < w.heap.size) (h0 : w.cell? ⟨B, 2, none⟩ = some (.int .u64 id)) :
    Calls Try.prog 41 #[.agg y.enc.toArray, .pointer (some ⟨B, 0, none⟩)] w fun e w' => e = .returned (.bool (y.id == id)) ∧ Below w.heap.size w w' := by
  have hne : B ≠ w.heap.size := by omega
  have hq : ((y.id : Int) == (id : Int)) = (y.id == id) := by rw [Bool.eq_iff_iff]; simp; omega
  generalize (y.id == id) = q at hq ⊢
  simp only [Sp.enc]
  go_enter Try.func41, Try.ntmps41
  go_wp2_with fail
  go_ret
  exact ⟨rfl, by go_grown⟩
set_option maxRecDepth 100000 in
theorem sindex_any {p : Nat → Prop} (v : Value) (l : List Sp) (id : Nat) (B : Nat) (W : World) (h : RowsOf p Sp.enc 11 W v l) (hp : ∀ b, p b → b < W.heap.size) (hl : l.length ≤ 9223372036854775807) (hB : B < W.heap.size) (h0 : W.cell? ⟨B, 2, none⟩ = some (.int .u64 id)) :
    Calls Try.prog 40 #[v, .func (.func 41) #[] #[.pointer (some ⟨B, 0, none⟩)]] W fun e w' => e = .returned (.int .i64 (atS l id)) ∧ Below W.heap.size W w' := by
  obtain ⟨a, cap, rfl, hlc, hcm, _, hcell⟩ := h
  have HC := hid hcell
  have HP := hid hp
  have HC0 := hid h0
  clear hcell hp h0
  go_enter Try.func40, Try.ntmps40
  go_wp2_with fail
  go_loopw [5, 8] (fun _ i wr => ∃ k : Nat, k ≤ l.length ∧ i = .int .i64 k ∧ Below W.heap.size W wr ∧ ∀ j (_ : j < k) (hj : j < l.length), l[j].id ≠ id) (fun _ i _ => l.length - (intOf i).toNat)
  case atStart => exact ⟨0, Nat.zero_le _, rfl, Below.refl _ _, fun j hj => absurd hj (Nat.not_lt_zero _)⟩
  case round =>
    obtain ⟨k, hk, rfl, hb, hno⟩ := hrel
    have HB := hid hb
    have HN := hid hno
    clear hb hno
    by_cases hlt : k < l.length
    · obtain ⟨b, off, rfl, hpb, hc⟩ := HC.out.resolve_left (by intro e; rw [e] at hlt; simp at hlt)
      have hbl := HP.out b hpb
      obtain ⟨c0, c1, c2, c3, c4, c5, c6, c7, c8, c9, c10⟩ := Sp.cells (fun j u hu => (HB.out.cell (p := ⟨b, off + k * 11 + j, none⟩) hbl).trans (hc k hlt j u hu))
      have HLit := hid (plit_any l[k] id B wr (Nat.lt_of_lt_of_le hB HB.out.size) ((HB.out.cell (p := ⟨B, 2, none⟩) hB).trans HC0.out))
      have HNext : Hid (∀ j (_ : j < k + 1) (hj : j < l.length), (l[k].id == id) = false → l[j].id ≠ id) := by
        intro j hj hjl hne
        by_cases e : j = k
        · subst e; simpa using hne
        · exact HN.out j (by omega) hjl
      have HHit : Hid ((l[k].id == id) = true → atS l id = k) := fun hh => atS_hit hlt (by simpa using hh) HN.out
      clear hc
      generalize l[k] = y at c0 c1 c2 c3 c4 c5 c6 c7 c8 c9 c10 HLit HNext HHit
      generalize (y.id == id) = bq at HLit HNext HHit
      cases bq
      · go_wp2_with (go_at_call 41; refine HLit.out.mono ?_; rintro e w1 ⟨rfl, hb1⟩)
        go_roundw
        case rel => exact ⟨k + 1, by omega, by go_num, HB.out.trans (hb1.mono HB.out.size), fun j hj hjl => HNext.out j hj hjl (by first | rfl | trivial)⟩
        case measure => simp [intOf]; omega
      · go_wp2_with (go_at_call 41; refine HLit.out.mono ?_; rintro e w1 ⟨rfl, hb1⟩)
        go_ret
        exact ⟨by rw [HHit.out (by first | rfl | trivial)]; rfl, HB.out.trans (hb1.mono HB.out.size)⟩
    · obtain rfl : k = l.length := by omega
      go_wp2_with fail
      go_ret
      exact ⟨by rw [atS_none (fun j hj => HN.out j hj hj)]; rfl, HB.out⟩
end C30
end Go.Proofs.Ytdamnbldimompaa
