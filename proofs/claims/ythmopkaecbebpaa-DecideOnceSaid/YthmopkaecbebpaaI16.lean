/- Walks of layers 12 and 14: few rules; a table that is small; no condition. -/
import Derived.Test.YthmopkaecbebpaaD16
namespace Go.Proofs.Ythmopkaecbebpaa
open Go.RowKit Go.Peri
namespace C16
set_option maxRecDepth 100000 in
set_option maxHeartbeats 2000000 in
theorem fewR_any {B : Nat} (v : Value) (l : List Rl) (r : Bool) (W : World) (h : RowsOf (· < B) Rl.enc 10 W v l) (hw : ∀ x ∈ l, x.Wf W B) (hB : B ≤ W.heap.size) (hl : l.length ≤ 1000000000000000) (hr : Rl.few l = r) :
    Calls Try.prog 103 #[v] W fun e w' => e = .returned (.bool r) ∧ Below W.heap.size W w' := by
  obtain ⟨a, cap, rfl, hlc, hcm, _, hcell⟩ := h
  have HC := hid hcell
  have HR := hid hr
  have HW := hid hw
  clear hcell hr hw
  by_cases h60 : 40 < l.length
  · have hd : Hid (Rl.few l = false) := hid (by unfold Rl.few; rw [decide_eq_false (by omega)]; rfl)
    go_enter Try.func103, Try.ntmps103
    go_wp2_with fail
    go_ret
    exact ⟨by rw [← HR.out, hd.out]; rfl, Below.refl _ _⟩
  go_enter Try.func103, Try.ntmps103
  go_wp2_with fail
  go_loopw [3] (fun i wr => ∃ k : Nat, k ≤ l.length ∧ i = .int .i64 k ∧ Below W.heap.size W wr ∧ ∀ j (_ : j < k) (h1 : j < l.length), Rl.fewB l[j] = true) (fun i _ => l.length - (intOf i).toNat)
  case atStart => exact ⟨0, Nat.zero_le _, rfl, Below.refl _ _, fun j hj => absurd hj (Nat.not_lt_zero _)⟩
  case round =>
    obtain ⟨k, hk, rfl, hb, hno⟩ := hrel
    have HB := hid hb
    have HN := hid hno
    clear hb hno
    by_cases hlt : k < l.length
    · obtain ⟨bb, off, rfl, hpb, hc⟩ := HC.out.resolve_left (by intro e; rw [e] at hlt; simp at hlt)
      have hbl0 : bb < W.heap.size := Nat.lt_of_lt_of_le hpb hB
      have hbl : bb < wr.heap.size := Nat.lt_of_lt_of_le hbl0 HB.out.size
      have hcc := Rl.cells (fun j u hu => (HB.out.cell (p := ⟨bb, off + k * 10 + j, none⟩) hbl0).trans (hc k hlt j u hu))
      have HNext : Hid (Rl.fewB l[k] = true → ∀ j (_ : j < k + 1) (h1 : j < l.length), Rl.fewB l[j] = true) := by
        intro he j hj h1
        by_cases e : j = k
        · subst e; exact he
        · exact HN.out j (by omega) h1
      have HHit : Hid (Rl.fewB l[k] = false → Rl.few l = false) := fun h1 => by
        unfold Rl.few
        rw [Bool.and_eq_false_iff]
        right
        rw [List.all_eq_false]
        exact ⟨l[k], List.getElem_mem hlt, by rw [Bool.not_eq_true]; exact h1⟩
      have hwy := HW.out l[k] (List.getElem_mem hlt)
      clear hc
      generalize l[k] = y at hcc HNext HHit hwy
      obtain ⟨fp, hfp⟩ : ∃ q, Prd.few y.preds = q := ⟨_, rfl⟩
      have HFx : Hid (∀ x : BW wr, Calls Try.prog 132 #[.slice y.pa y.preds.length y.pcap] x.val fun e w' => e = .returned (.bool fp) ∧ Below x.val.heap.size x.val w') := hid (fun x => by
        have hg := HB.out.trans (x.prop.mono HB.out.size)
        exact C11.few_any _ y.preds fp x.val (hwy.rows.below (hg.mono hB) (fun _ h => h)) (fun b hb => Nat.lt_of_lt_of_le hb (Nat.le_trans hB hg.size)) hwy.preds (by have := hwy.len; omega) hfp)
      have hy1 := hwy.target
      have hy2 := hwy.mirror
      have hk1 : (k : Int) < (l.length : Int) := by omega
      have HF : Hid (Rl.fewB y = (fp && decide (y.target.size + y.mirror.size ≤ 400))) := hid (by rw [← hfp]; rfl)
      obtain ⟨n1, hn1⟩ : ∃ n, n = y.target.size := ⟨_, rfl⟩
      obtain ⟨n2, hn2⟩ : ∃ n, n = y.mirror.size := ⟨_, rfl⟩
      rw [← hn1] at hy1 HF
      rw [← hn2] at hy2 HF
      clear hfp hwy
      cases fp
      · have HV := hid (HHit.out (by rw [HF.out]; rfl))
        clear HHit HNext hn1 hn2 HF
        obtain ⟨c0, c1, c2, c3, c4, c5, c6, c7, c8, c9⟩ := hcc
        go_wp2_with fail
        refine wp_region_bw (by kernel_rfl) (by kernel_rfl) ?_
        repeat (go_big_quiet_step ((go_at_call 132; exact bw_call (HFx.out _))))
        refine wpQuiet_nil ?_
        rintro w2 ⟨⟨_, hbw⟩, rfl⟩
        have HB1 := hid (HB.out.trans (hbw.mono HB.out.size))
        clear hbw
        go_wp2_with fail
        go_ret
        exact ⟨by rw [← HR.out, HV.out]; rfl, HB1.out⟩
      by_cases hs : n1 + n2 ≤ 400
      · have HV := hid (HNext.out (by rw [HF.out, decide_eq_true hs]; rfl))
        have hwr : IntKind.i64.wrap ((n1 : Int) + (n2 : Int)) = (n1 : Int) + (n2 : Int) := IntWalk.i64_in _ (by omega)
        have hle : ¬ (400 : Int) < (n1 : Int) + (n2 : Int) := by omega
        rw [hn1, hn2] at hwr hle
        clear HHit HNext hn1 hn2 HF
        obtain ⟨c0, c1, c2, c3, c4, c5, c6, c7, c8, c9⟩ := hcc
        go_wp2_with fail
        refine wp_region_bw (by kernel_rfl) (by kernel_rfl) ?_
        repeat (go_big_quiet_step ((go_at_call 132; exact bw_call (HFx.out _))))
        refine wpQuiet_nil ?_
        rintro w2 ⟨⟨_, hbw⟩, rfl⟩
        have HB1 := hid (HB.out.trans (hbw.mono HB.out.size))
        clear hbw
        go_wp2_with fail
        go_roundw
        case rel => exact ⟨k + 1, by omega, by go_num, HB1.out, HV.out⟩
        case measure => simp [intOf]; omega
      · have HV := hid (HHit.out (by rw [HF.out, decide_eq_false hs]; rfl))
        have hwr : IntKind.i64.wrap ((n1 : Int) + (n2 : Int)) = (n1 : Int) + (n2 : Int) := IntWalk.i64_in _ (by omega)
        have hle : (400 : Int) < (n1 : Int) + (n2 : Int) := by omega
        rw [hn1, hn2] at hwr hle
        clear HHit HNext hn1 hn2 HF
        obtain ⟨c0, c1, c2, c3, c4, c5, c6, c7, c8, c9⟩ := hcc
        go_wp2_with fail
        refine wp_region_bw (by kernel_rfl) (by kernel_rfl) ?_
        repeat (go_big_quiet_step ((go_at_call 132; exact bw_call (HFx.out _))))
        refine wpQuiet_nil ?_
        rintro w2 ⟨⟨_, hbw⟩, rfl⟩
        have HB1 := hid (HB.out.trans (hbw.mono HB.out.size))
        clear hbw
        go_wp2_with fail
        go_ret
        exact ⟨by rw [← HR.out, HV.out]; rfl, HB1.out⟩
    · obtain rfl : k = l.length := by omega
      have hd : Hid (Rl.few l = true) := hid (by
        unfold Rl.few
        rw [decide_eq_true (by omega), Bool.true_and, List.all_eq_true]
        intro x hx
        obtain ⟨i, hi, rfl⟩ := List.getElem_of_mem hx
        exact HN.out i hi hi)
      go_wp2_with fail
      go_ret
      exact ⟨by rw [← HR.out, hd.out]; rfl, HB.out⟩
def fewT (l : List Rl) (f : ByteArray) : Bool := decide (f.size ≤ 400) && Rl.few l
set_option maxRecDepth 100000 in
set_option maxHeartbeats 1000000 in
theorem fewT_any {B : Nat} (n : Int) (l : List Rl) (a : Option Addr) (cap : Nat) (f : ByteArray) (r : Bool) (W : World) (ht : TabV W B l a cap f) (hB : B ≤ W.heap.size) (hr : fewT l f = r) :
    Calls Try.prog 65 #[.agg #[.int .i64 n, .slice a l.length cap, .string f]] W fun e w' => e = .returned (.bool r) ∧ Below W.heap.size W w' := by
  have HB0 : Hid (Below W.heap.size W (W.alloc (.cells #[.int .i64 n, .slice a l.length cap, .string f] 110))) := by show Below _ _ _; go_grown
  have hf := ht.f
  unfold fewT at hr
  by_cases h4 : f.size ≤ 400
  · rw [decide_eq_true h4, Bool.true_and] at hr
    have g1 : (f.size : Int) ≤ 400 := by omega
    have HF := hid (fun w' (hw : Below W.heap.size W w') => fewR_any (.slice a l.length cap) l r w' (ht.rows.below (hw.mono hB) (fun _ h => h)) (fun x hx => (ht.wf x hx).below (hw.mono hB)) (Nat.le_trans hB hw.size) (by have := ht.len; omega) hr)
    clear ht hr h4
    go_enter Try.func65, Try.ntmps65
    go_wp2_with fail
    refine (HF.out _ HB0.out).mono ?_
    rintro e w1 ⟨rfl, hb1⟩
    have HB1 := hid (HB0.out.trans (hb1.mono HB0.out.size))
    clear hb1
    go_wp2_with fail
    go_ret
    exact ⟨rfl, HB1.out⟩
  · rw [decide_eq_false h4, Bool.false_and] at hr
    subst hr
    have g1 : ¬ (f.size : Int) ≤ 400 := by omega
    have g2 : (400 : Int) < (f.size : Int) := by omega
    clear ht h4
    go_enter Try.func65, Try.ntmps65
    go_wp2_with fail
    go_ret
    exact ⟨rfl, HB0.out⟩
end C16
end Go.Proofs.Ythmopkaecbebpaa
