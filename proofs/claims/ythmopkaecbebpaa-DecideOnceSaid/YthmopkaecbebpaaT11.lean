/- Walks of layer 11 (pred): whether a request matches all of some, in the program and by the document; no condition. -/
import Derived.Test.YthmopkaecbebpaaR11
import Derived.Test.YthmopkaecbebpaaS11
import Derived.Test.YthmopkaecbebpaaPd
namespace Go.Proofs.Ythmopkaecbebpaa
open Go.RowKit Go.Peri
namespace C11
def allR (m h p : ByteArray) (hs : List Hd) (l : List Prd) : Bool := l.all (fun x => matchR x.kind x.name x.value m h p hs)
set_option maxRecDepth 100000 in
set_option maxHeartbeats 1000000 in
theorem all_any {pp qq : Nat → Prop} (v : Value) (l : List Prd) (m h p b : ByteArray) (hs : List Hd) (a0 : Option Addr) (cap0 : Nat) (r : Bool) (W : World) (hl : RowsOf qq Prd.enc 3 W v l) (hq : ∀ b, qq b → b < W.heap.size) (hhs : RowsOf pp Hd.enc 2 W (.slice a0 hs.length cap0) hs) (hp : ∀ b, pp b → b < W.heap.size) (hn : hs.length ≤ 1000000) (hlen : l.length ≤ 1000000000) (hr : allR m h p hs l = r) :
    Calls Try.prog 153 #[v, .agg #[.string m, .string h, .string p, .slice a0 hs.length cap0, .string b]] W fun e w' => e = .returned (.bool r) ∧ Below W.heap.size W w' := by
  have HM := hid (fun (k : Int) (n v : ByteArray) (r : Bool) (hr : matchR k n v m h p hs = r) w' (hw : Below W.heap.size W w') => pmatch_any k n v m h p b hs (.slice a0 hs.length cap0) r w' (hhs.below hw hp) (fun b hb => Nat.lt_of_lt_of_le (hp b hb) hw.size) hn hr)
  obtain ⟨a, cap, rfl, hlc, hcm, _, hcell⟩ := hl
  have HC := hid hcell
  have HP := hid hq
  have HR := hid hr
  have HZ := hid (Blk.new W #[.string m, .string h, .string p, .slice a0 hs.length cap0, .string b] 113)
  have HB0 : Hid (Below W.heap.size W (W.alloc (.cells #[.string m, .string h, .string p, .slice a0 hs.length cap0, .string b] 113))) := by show Below _ _ _; go_grown
  have HS0 : Hid ((W.alloc (.cells #[.string m, .string h, .string p, .slice a0 hs.length cap0, .string b] 113)).heap.size = W.heap.size + 1) := hid (by simp)
  clear hcell hq hr hhs hp
  go_enter Try.func153, Try.ntmps153
  go_wp2_with fail
  go_loopw [9] (fun i wr => ∃ k : Nat, k ≤ l.length ∧ i = .int .i64 k ∧ Below (W.alloc (.cells #[.string m, .string h, .string p, .slice a0 hs.length cap0, .string b] 113)).heap.size (W.alloc (.cells #[.string m, .string h, .string p, .slice a0 hs.length cap0, .string b] 113)) wr ∧ ∀ j (_ : j < k) (hj : j < l.length), matchR l[j].kind l[j].name l[j].value m h p hs = true) (fun i _ => l.length - (intOf i).toNat)
  case atStart => exact ⟨0, Nat.zero_le _, rfl, Below.refl _ _, fun j hj => absurd hj (Nat.not_lt_zero _)⟩
  case round =>
    obtain ⟨k, hk, rfl, hb, hno⟩ := hrel
    have hz := HZ.out.later hb
    have q0 : wr.cell? ⟨W.heap.size, 0, none⟩ = some (.string m) := hz.cell 0
    have q1 : wr.cell? ⟨W.heap.size, 1, none⟩ = some (.string h) := hz.cell 1
    have q2 : wr.cell? ⟨W.heap.size, 2, none⟩ = some (.string p) := hz.cell 2
    have q3 : wr.cell? ⟨W.heap.size, 3, none⟩ = some (.slice a0 hs.length cap0) := hz.cell 3
    have q4 : wr.cell? ⟨W.heap.size, 4, none⟩ = some (.string b) := hz.cell 4
    have hlt0 := hz.lt
    have HB := hid (HB0.out.trans (hb.mono HB0.out.size))
    have HQ : Hid (Below (W.alloc (.cells #[.string m, .string h, .string p, .slice a0 hs.length cap0, .string b] 113)).heap.size (W.alloc (.cells #[.string m, .string h, .string p, .slice a0 hs.length cap0, .string b] 113)) wr) := hid hb
    have HN := hid hno
    clear hb hno hz
    by_cases hlt : k < l.length
    · obtain ⟨bb, off, rfl, hpb, hc⟩ := HC.out.resolve_left (by intro e; rw [e] at hlt; simp at hlt)
      have hbl0 := HP.out bb hpb
      have hbl : bb < wr.heap.size := Nat.lt_of_lt_of_le hbl0 HB.out.size
      obtain ⟨c0, c1, c2⟩ := Prd.cells (fun j u hu => (HB.out.cell (p := ⟨bb, off + k * 3 + j, none⟩) hbl0).trans (hc k hlt j u hu))
      obtain ⟨bq, hbq⟩ : ∃ bq, matchR l[k].kind l[k].name l[k].value m h p hs = bq := ⟨_, rfl⟩
      have HMk := hid (fun w' (hw : Below wr.heap.size wr w') => HM.out _ _ _ _ hbq w' (HB.out.trans (hw.mono HB.out.size)))
      have HNext : Hid (bq = true → ∀ j (_ : j < k + 1) (hj : j < l.length), matchR l[j].kind l[j].name l[j].value m h p hs = true) := by
        intro e j hj hjl
        by_cases e2 : j = k
        · subst e2; rw [e] at hbq; exact hbq
        · exact HN.out j (by omega) hjl
      have HHit : Hid (bq = false → r = false) := fun e => by
        rw [e] at hbq
        rw [← HR.out]
        unfold allR
        rw [List.all_eq_false]
        exact ⟨l[k], List.getElem_mem hlt, by rw [hbq]; simp⟩
      clear hc hbq
      generalize l[k] = y at c0 c1 c2 HMk
      obtain ⟨yk, yn, yv⟩ := y
      dsimp only at c0 c1 c2 HMk
      have HSZ : Hid (wr.heap.size ≤ wr.heap.size) := hid (Nat.le_refl _)
      cases bq
      · go_wp2_with fail
        refine (HMk.out _ (by go_grown)).mono ?_
        rintro e w1 ⟨rfl, hb1⟩
        have hbw : Below wr.heap.size wr w1 := Below.trans (by go_grown) (hb1.mono (by simp))
        have HB1 := hid (HB.out.trans (hbw.mono HB.out.size))
        clear hb1 hbw
        go_wp2_with fail
        go_ret
        exact ⟨by rw [HHit.out (by simp)]; rfl, HB1.out⟩
      · go_wp2_with fail
        refine (HMk.out _ (by go_grown)).mono ?_
        rintro e w1 ⟨rfl, hb1⟩
        have hbw : Below wr.heap.size wr w1 := Below.trans (by go_grown) (hb1.mono (by simp))
        have HQ1 := hid (HQ.out.trans (hbw.mono HQ.out.size))
        have HB1 := hid (HB.out.trans (hbw.mono HB.out.size))
        clear hb1 hbw
        go_wp2_with fail
        go_roundw
        case rel => exact ⟨k + 1, by omega, by go_num, HQ1.out, HNext.out (by simp)⟩
        case measure => simp [intOf]; omega
    · obtain rfl : k = l.length := by omega
      have hd : Hid (r = true) := hid (by
        rw [← HR.out]
        unfold allR
        rw [List.all_eq_true]
        intro x hx
        obtain ⟨i, hi, rfl⟩ := List.getElem_of_mem hx
        exact HN.out i hi hi)
      go_wp2_with fail
      go_ret
      exact ⟨by rw [hd.out]; rfl, HB.out⟩
set_option maxRecDepth 100000 in
set_option maxHeartbeats 1000000 in
theorem rall_any {pp qq : Nat → Prop} (v : Value) (l : List Prd) (m h p b : ByteArray) (hs : List Hd) (a0 : Option Addr) (cap0 : Nat) (r : Bool) (W : World) (hl : RowsOf qq Prd.enc 3 W v l) (hq : ∀ b, qq b → b < W.heap.size) (hhs : RowsOf pp Hd.enc 2 W (.slice a0 hs.length cap0) hs) (hp : ∀ b, pp b → b < W.heap.size) (hn : hs.length ≤ 1000000) (hlen : l.length ≤ 1000000000) (hr : allR m h p hs l = r) :
    Calls Try.prog 136 #[v, .agg #[.string m, .string h, .string p, .slice a0 hs.length cap0, .string b]] W fun e w' => e = .returned (.bool r) ∧ Below W.heap.size W w' := by
  have HM := hid (fun (k : Int) (n v : ByteArray) (r : Bool) (hr : matchR k n v m h p hs = r) w' (hw : Below W.heap.size W w') => rmatch_any k n v m h p b hs (.slice a0 hs.length cap0) r w' (hhs.below hw hp) (fun b hb => Nat.lt_of_lt_of_le (hp b hb) hw.size) hn hr)
  obtain ⟨a, cap, rfl, hlc, hcm, _, hcell⟩ := hl
  have HC := hid hcell
  have HP := hid hq
  have HR := hid hr
  have HZ := hid (Blk.new W #[.string m, .string h, .string p, .slice a0 hs.length cap0, .string b] 113)
  have HB0 : Hid (Below W.heap.size W (W.alloc (.cells #[.string m, .string h, .string p, .slice a0 hs.length cap0, .string b] 113))) := by show Below _ _ _; go_grown
  have HS0 : Hid ((W.alloc (.cells #[.string m, .string h, .string p, .slice a0 hs.length cap0, .string b] 113)).heap.size = W.heap.size + 1) := hid (by simp)
  clear hcell hq hr hhs hp
  go_enter Try.func136, Try.ntmps136
  go_wp2_with fail
  go_loopw [5] (fun i wr => ∃ k : Nat, k ≤ l.length ∧ i = .int .i64 k ∧ Below (W.alloc (.cells #[.string m, .string h, .string p, .slice a0 hs.length cap0, .string b] 113)).heap.size (W.alloc (.cells #[.string m, .string h, .string p, .slice a0 hs.length cap0, .string b] 113)) wr ∧ ∀ j (_ : j < k) (hj : j < l.length), matchR l[j].kind l[j].name l[j].value m h p hs = true) (fun i _ => l.length - (intOf i).toNat)
  case atStart => exact ⟨0, Nat.zero_le _, rfl, Below.refl _ _, fun j hj => absurd hj (Nat.not_lt_zero _)⟩
  case round =>
    obtain ⟨k, hk, rfl, hb, hno⟩ := hrel
    have hz := HZ.out.later hb
    have q0 : wr.cell? ⟨W.heap.size, 0, none⟩ = some (.string m) := hz.cell 0
    have q1 : wr.cell? ⟨W.heap.size, 1, none⟩ = some (.string h) := hz.cell 1
    have q2 : wr.cell? ⟨W.heap.size, 2, none⟩ = some (.string p) := hz.cell 2
    have q3 : wr.cell? ⟨W.heap.size, 3, none⟩ = some (.slice a0 hs.length cap0) := hz.cell 3
    have q4 : wr.cell? ⟨W.heap.size, 4, none⟩ = some (.string b) := hz.cell 4
    have hlt0 := hz.lt
    have HB := hid (HB0.out.trans (hb.mono HB0.out.size))
    have HQ : Hid (Below (W.alloc (.cells #[.string m, .string h, .string p, .slice a0 hs.length cap0, .string b] 113)).heap.size (W.alloc (.cells #[.string m, .string h, .string p, .slice a0 hs.length cap0, .string b] 113)) wr) := hid hb
    have HN := hid hno
    clear hb hno hz
    by_cases hlt : k < l.length
    · obtain ⟨bb, off, rfl, hpb, hc⟩ := HC.out.resolve_left (by intro e; rw [e] at hlt; simp at hlt)
      have hbl0 := HP.out bb hpb
      have hbl : bb < wr.heap.size := Nat.lt_of_lt_of_le hbl0 HB.out.size
      obtain ⟨c0, c1, c2⟩ := Prd.cells (fun j u hu => (HB.out.cell (p := ⟨bb, off + k * 3 + j, none⟩) hbl0).trans (hc k hlt j u hu))
      obtain ⟨bq, hbq⟩ : ∃ bq, matchR l[k].kind l[k].name l[k].value m h p hs = bq := ⟨_, rfl⟩
      have HMk := hid (fun w' (hw : Below wr.heap.size wr w') => HM.out _ _ _ _ hbq w' (HB.out.trans (hw.mono HB.out.size)))
      have HNext : Hid (bq = true → ∀ j (_ : j < k + 1) (hj : j < l.length), matchR l[j].kind l[j].name l[j].value m h p hs = true) := by
        intro e j hj hjl
        by_cases e2 : j = k
        · subst e2; rw [e] at hbq; exact hbq
        · exact HN.out j (by omega) hjl
      have HHit : Hid (bq = false → r = false) := fun e => by
        rw [e] at hbq
        rw [← HR.out]
        unfold allR
        rw [List.all_eq_false]
        exact ⟨l[k], List.getElem_mem hlt, by rw [hbq]; simp⟩
      clear hc hbq
      generalize l[k] = y at c0 c1 c2 HMk
      obtain ⟨yk, yn, yv⟩ := y
      dsimp only at c0 c1 c2 HMk
      have HSZ : Hid (wr.heap.size ≤ wr.heap.size) := hid (Nat.le_refl _)
      cases bq
      · have HMx : Hid (∀ x : BW wr, Calls Try.prog 148 #[.agg #[.int .i64 yk, .string yn, .string yv], .agg #[.string m, .string h, .string p, .slice a0 hs.length cap0, .string b]] x.val fun e w' => e = .returned (.bool false) ∧ Below x.val.heap.size x.val w') := hid (fun x => HMk.out _ x.prop)
        go_wp2_with fail
        refine wp_region_bw (by kernel_rfl) (by kernel_rfl) ?_
        repeat (go_big_quiet_step ((go_at_call 148; exact bw_call (HMx.out _))))
        refine wpQuiet_nil ?_
        rintro w2 ⟨⟨_, hbw⟩, rfl⟩
        have HB1 := hid (HB.out.trans (hbw.mono HB.out.size))
        have HS2 : Hid (wr.heap.size ≤ w2.heap.size) := hid hbw.size
        clear hbw
        go_wp2_with fail
        go_ret
        exact ⟨by rw [HHit.out (by simp)]; rfl, HB1.out⟩
      · have HMx : Hid (∀ x : BW wr, Calls Try.prog 148 #[.agg #[.int .i64 yk, .string yn, .string yv], .agg #[.string m, .string h, .string p, .slice a0 hs.length cap0, .string b]] x.val fun e w' => e = .returned (.bool true) ∧ Below x.val.heap.size x.val w') := hid (fun x => HMk.out _ x.prop)
        go_wp2_with fail
        refine wp_region_bw (by kernel_rfl) (by kernel_rfl) ?_
        repeat (go_big_quiet_step ((go_at_call 148; exact bw_call (HMx.out _))))
        refine wpQuiet_nil ?_
        rintro w2 ⟨⟨_, hbw⟩, rfl⟩
        have HQ1 := hid (HQ.out.trans (hbw.mono HQ.out.size))
        have HB1 := hid (HB.out.trans (hbw.mono HB.out.size))
        have HS2 : Hid (wr.heap.size ≤ w2.heap.size) := hid hbw.size
        clear hbw
        go_wp2_with fail
        go_roundw
        case rel => exact ⟨k + 1, by omega, by go_num, HQ1.out, HNext.out (by simp)⟩
        case measure => simp [intOf]; omega
    · obtain rfl : k = l.length := by omega
      have hd : Hid (r = true) := hid (by
        rw [← HR.out]
        unfold allR
        rw [List.all_eq_true]
        intro x hx
        obtain ⟨i, hi, rfl⟩ := List.getElem_of_mem hx
        exact HN.out i hi hi)
      go_wp2_with fail
      go_ret
      exact ⟨by rw [hd.out]; rfl, HB.out⟩
end C11
end Go.Proofs.Ythmopkaecbebpaa
