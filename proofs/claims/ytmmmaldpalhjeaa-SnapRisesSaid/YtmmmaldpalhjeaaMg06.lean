/- Walks of layer 11 (pred): whether a request matches all of some, in the program and by the document; no condition. Walks of layers 5 and 11: few predicates; a request that is short; no condition. Walks of layer 11 (pred): the checks of any kind; what must come of fixed calls; no condition. Rules and tables as plain data, and what arguments read as. No program in sight. Walks of layer 12 (rule): numbers that may be, names that are there; no condition. Walks of layer 12 (rule): whether a rule may be; no condition. Walks of layer 12 (rule): whether a rule may be; no condition. -/
import Derived.Test.YtmmmaldpalhjeaaMg05
import Derived.Test.YtmmmaldpalhjeaaMg03
import Derived.Deep.Cut
namespace Go.Proofs.Ytmmmaldpalhjeaa
open Go.RowKit Go.Peri
namespace C11
def allR (m h p : ByteArray) (hs : List Hd) (l : List Prd) : Bool := l.all (fun x => matchR x.kind x.name x.value m h p hs)
set_option maxRecDepth 100000 in
set_option maxHeartbeats 1000000 in
theorem all_any {pp qq : Nat → Prop} (v : Value) (l : List Prd) (m h p b : ByteArray) (hs : List Hd) (a0 : Option Addr) (cap0 : Nat) (r : Bool) (W : World) (hl : RowsOf qq Prd.enc 3 W v l) (hq : ∀ b, qq b → b < W.heap.size) (hhs : RowsOf pp Hd.enc 2 W (.slice a0 hs.length cap0) hs) (hp : ∀ b, pp b → b < W.heap.size) (hn : hs.length ≤ 1000000) (hlen : l.length ≤ 1000000000) (hr : allR m h p hs l = r) :
    Calls Try.prog 106 #[v, .agg #[.string m, .string h, .string p, .slice a0 hs.length cap0, .string b]] W fun e w' => e = .returned (.bool r) ∧ Below W.heap.size W w' := by
  have HM := hid (fun (k : Int) (n v : ByteArray) (r : Bool) (hr : matchR k n v m h p hs = r) w' (hw : Below W.heap.size W w') => pmatch_any k n v m h p b hs (.slice a0 hs.length cap0) r w' (hhs.below hw hp) (fun b hb => Nat.lt_of_lt_of_le (hp b hb) hw.size) hn hr)
  obtain ⟨a, cap, rfl, hlc, hcm, _, hcell⟩ := hl
  have HC := hid hcell
  have HP := hid hq
  have HR := hid hr
  have HZ := hid (Blk.new W #[.string m, .string h, .string p, .slice a0 hs.length cap0, .string b] 67)
  have HB0 : Hid (Below W.heap.size W (W.alloc (.cells #[.string m, .string h, .string p, .slice a0 hs.length cap0, .string b] 67))) := by show Below _ _ _; go_grown
  have HS0 : Hid ((W.alloc (.cells #[.string m, .string h, .string p, .slice a0 hs.length cap0, .string b] 67)).heap.size = W.heap.size + 1) := hid (by simp)
  clear hcell hq hr hhs hp
  go_enter Try.func106, Try.ntmps106
  go_wp2_with fail
  go_loopw [9] (fun i wr => ∃ k : Nat, k ≤ l.length ∧ i = .int .i64 k ∧ Below (W.alloc (.cells #[.string m, .string h, .string p, .slice a0 hs.length cap0, .string b] 67)).heap.size (W.alloc (.cells #[.string m, .string h, .string p, .slice a0 hs.length cap0, .string b] 67)) wr ∧ ∀ j (_ : j < k) (hj : j < l.length), matchR l[j].kind l[j].name l[j].value m h p hs = true) (fun i _ => l.length - (intOf i).toNat)
  case atStart => exact ⟨0, Nat.zero_le _, rfl, Below.refl _ _, fun j hj => absurd hj (Nat.not_lt_zero _)⟩
  case round =>
    obtain ⟨k, hk, rfl, hb, hno⟩ := hrel
    have hz := HZ.out.later hb
    have q0 : wr.cell? ⟨W.heap.size, 0, none⟩ = some (.string m) := hz.cell 0
    have q1 : wr.cell? ⟨W.heap.size, 1, none⟩ = some (.string h) := hz.cell 1
    have q2 : wr.cell? ⟨W.heap.size, 2, none⟩ = some (.string p) := hz.cell 2
    have q3 : wr.cell? ⟨W.heap.size, 3, none⟩ = some (.slice a0 hs.length cap0) := hz.cell 3
    have q4 : wr.cell? ⟨W.heap.size, 4, none⟩ = some (.string b) := hz.cell 4
    have hlt0 := hz.lt
    have HB := hid (HB0.out.trans (hb.mono HB0.out.size))
    have HQ : Hid (Below (W.alloc (.cells #[.string m, .string h, .string p, .slice a0 hs.length cap0, .string b] 67)).heap.size (W.alloc (.cells #[.string m, .string h, .string p, .slice a0 hs.length cap0, .string b] 67)) wr) := hid hb
    have HN := hid hno
    clear hb hno hz
    by_cases hlt : k < l.length
    · obtain ⟨bb, off, rfl, hpb, hc⟩ := HC.out.resolve_left (by intro e; rw [e] at hlt; simp at hlt)
      have hbl0 := HP.out bb hpb
      have hbl : bb < wr.heap.size := Nat.lt_of_lt_of_le hbl0 HB.out.size
      obtain ⟨c0, c1, c2⟩ := Prd.cells (fun j u hu => (HB.out.cell (p := ⟨bb, off + k * 3 + j, none⟩) hbl0).trans (hc k hlt j u hu))
      obtain ⟨bq, hbq⟩ : ∃ bq, matchR l[k].kind l[k].name l[k].value m h p hs = bq := ⟨_, rfl⟩
      have HMk := hid (fun w' (hw : Below wr.heap.size wr w') => HM.out _ _ _ _ hbq w' (HB.out.trans (hw.mono HB.out.size)))
      have HNext : Hid (bq = true → ∀ j (_ : j < k + 1) (hj : j < l.length), matchR l[j].kind l[j].name l[j].value m h p hs = true) := by
        intro e j hj hjl
        by_cases e2 : j = k
        · subst e2; rw [e] at hbq; exact hbq
        · exact HN.out j (by omega) hjl
      have HHit : Hid (bq = false → r = false) := fun e => by
        rw [e] at hbq
        rw [← HR.out]
        unfold allR
        rw [List.all_eq_false]
        exact ⟨l[k], List.getElem_mem hlt, by rw [hbq]; simp⟩
      clear hc hbq
      generalize l[k] = y at c0 c1 c2 HMk
      obtain ⟨yk, yn, yv⟩ := y
      dsimp only at c0 c1 c2 HMk
      have HSZ : Hid (wr.heap.size ≤ wr.heap.size) := hid (Nat.le_refl _)
      cases bq
      · go_wp2_with fail
        refine (HMk.out _ (by go_grown)).mono ?_
        rintro e w1 ⟨rfl, hb1⟩
        have hbw : Below wr.heap.size wr w1 := Below.trans (by go_grown) (hb1.mono (by simp))
        have HB1 := hid (HB.out.trans (hbw.mono HB.out.size))
        clear hb1 hbw
        go_wp2_with fail
        go_ret
        exact ⟨by rw [HHit.out (by simp)]; rfl, HB1.out⟩
      · go_wp2_with fail
        refine (HMk.out _ (by go_grown)).mono ?_
        rintro e w1 ⟨rfl, hb1⟩
        have hbw : Below wr.heap.size wr w1 := Below.trans (by go_grown) (hb1.mono (by simp))
        have HQ1 := hid (HQ.out.trans (hbw.mono HQ.out.size))
        have HB1 := hid (HB.out.trans (hbw.mono HB.out.size))
        clear hb1 hbw
        go_wp2_with fail
        go_roundw
        case rel => exact ⟨k + 1, by omega, by go_num, HQ1.out, HNext.out (by simp)⟩
        case measure => simp [intOf]; omega
    · obtain rfl : k = l.length := by omega
      have hd : Hid (r = true) := hid (by
        rw [← HR.out]
        unfold allR
        rw [List.all_eq_true]
        intro x hx
        obtain ⟨i, hi, rfl⟩ := List.getElem_of_mem hx
        exact HN.out i hi hi)
      go_wp2_with fail
      go_ret
      exact ⟨by rw [hd.out]; rfl, HB.out⟩
set_option maxRecDepth 100000 in
set_option maxHeartbeats 1000000 in
theorem rall_any {pp qq : Nat → Prop} (v : Value) (l : List Prd) (m h p b : ByteArray) (hs : List Hd) (a0 : Option Addr) (cap0 : Nat) (r : Bool) (W : World) (hl : RowsOf qq Prd.enc 3 W v l) (hq : ∀ b, qq b → b < W.heap.size) (hhs : RowsOf pp Hd.enc 2 W (.slice a0 hs.length cap0) hs) (hp : ∀ b, pp b → b < W.heap.size) (hn : hs.length ≤ 1000000) (hlen : l.length ≤ 1000000000) (hr : allR m h p hs l = r) :
    Calls Try.prog 107 #[v, .agg #[.string m, .string h, .string p, .slice a0 hs.length cap0, .string b]] W fun e w' => e = .returned (.bool r) ∧ Below W.heap.size W w' := by
  have HM := hid (fun (k : Int) (n v : ByteArray) (r : Bool) (hr : matchR k n v m h p hs = r) w' (hw : Below W.heap.size W w') => rmatch_any k n v m h p b hs (.slice a0 hs.length cap0) r w' (hhs.below hw hp) (fun b hb => Nat.lt_of_lt_of_le (hp b hb) hw.size) hn hr)
  obtain ⟨a, cap, rfl, hlc, hcm, _, hcell⟩ := hl
  have HC := hid hcell
  have HP := hid hq
  have HR := hid hr
  have HZ := hid (Blk.new W #[.string m, .string h, .string p, .slice a0 hs.length cap0, .string b] 67)
  have HB0 : Hid (Below W.heap.size W (W.alloc (.cells #[.string m, .string h, .string p, .slice a0 hs.length cap0, .string b] 67))) := by show Below _ _ _; go_grown
  have HS0 : Hid ((W.alloc (.cells #[.string m, .string h, .string p, .slice a0 hs.length cap0, .string b] 67)).heap.size = W.heap.size + 1) := hid (by simp)
  clear hcell hq hr hhs hp
  go_enter Try.func107, Try.ntmps107
  go_wp2_with fail
  go_loopw [5] (fun i wr => ∃ k : Nat, k ≤ l.length ∧ i = .int .i64 k ∧ Below (W.alloc (.cells #[.string m, .string h, .string p, .slice a0 hs.length cap0, .string b] 67)).heap.size (W.alloc (.cells #[.string m, .string h, .string p, .slice a0 hs.length cap0, .string b] 67)) wr ∧ ∀ j (_ : j < k) (hj : j < l.length), matchR l[j].kind l[j].name l[j].value m h p hs = true) (fun i _ => l.length - (intOf i).toNat)
  case atStart => exact ⟨0, Nat.zero_le _, rfl, Below.refl _ _, fun j hj => absurd hj (Nat.not_lt_zero _)⟩
  case round =>
    obtain ⟨k, hk, rfl, hb, hno⟩ := hrel
    have hz := HZ.out.later hb
    have q0 : wr.cell? ⟨W.heap.size, 0, none⟩ = some (.string m) := hz.cell 0
    have q1 : wr.cell? ⟨W.heap.size, 1, none⟩ = some (.string h) := hz.cell 1
    have q2 : wr.cell? ⟨W.heap.size, 2, none⟩ = some (.string p) := hz.cell 2
    have q3 : wr.cell? ⟨W.heap.size, 3, none⟩ = some (.slice a0 hs.length cap0) := hz.cell 3
    have q4 : wr.cell? ⟨W.heap.size, 4, none⟩ = some (.string b) := hz.cell 4
    have hlt0 := hz.lt
    have HB := hid (HB0.out.trans (hb.mono HB0.out.size))
    have HQ : Hid (Below (W.alloc (.cells #[.string m, .string h, .string p, .slice a0 hs.length cap0, .string b] 67)).heap.size (W.alloc (.cells #[.string m, .string h, .string p, .slice a0 hs.length cap0, .string b] 67)) wr) := hid hb
    have HN := hid hno
    clear hb hno hz
    by_cases hlt : k < l.length
    · obtain ⟨bb, off, rfl, hpb, hc⟩ := HC.out.resolve_left (by intro e; rw [e] at hlt; simp at hlt)
      have hbl0 := HP.out bb hpb
      have hbl : bb < wr.heap.size := Nat.lt_of_lt_of_le hbl0 HB.out.size
      obtain ⟨c0, c1, c2⟩ := Prd.cells (fun j u hu => (HB.out.cell (p := ⟨bb, off + k * 3 + j, none⟩) hbl0).trans (hc k hlt j u hu))
      obtain ⟨bq, hbq⟩ : ∃ bq, matchR l[k].kind l[k].name l[k].value m h p hs = bq := ⟨_, rfl⟩
      have HMk := hid (fun w' (hw : Below wr.heap.size wr w') => HM.out _ _ _ _ hbq w' (HB.out.trans (hw.mono HB.out.size)))
      have HNext : Hid (bq = true → ∀ j (_ : j < k + 1) (hj : j < l.length), matchR l[j].kind l[j].name l[j].value m h p hs = true) := by
        intro e j hj hjl
        by_cases e2 : j = k
        · subst e2; rw [e] at hbq; exact hbq
        · exact HN.out j (by omega) hjl
      have HHit : Hid (bq = false → r = false) := fun e => by
        rw [e] at hbq
        rw [← HR.out]
        unfold allR
        rw [List.all_eq_false]
        exact ⟨l[k], List.getElem_mem hlt, by rw [hbq]; simp⟩
      clear hc hbq
      generalize l[k] = y at c0 c1 c2 HMk
      obtain ⟨yk, yn, yv⟩ := y
      dsimp only at c0 c1 c2 HMk
      have HSZ : Hid (wr.heap.size ≤ wr.heap.size) := hid (Nat.le_refl _)
      cases bq
      · have HMx : Hid (∀ x : BW wr, Calls Try.prog 159 #[.agg #[.int .i64 yk, .string yn, .string yv], .agg #[.string m, .string h, .string p, .slice a0 hs.length cap0, .string b]] x.val fun e w' => e = .returned (.bool false) ∧ Below x.val.heap.size x.val w') := hid (fun x => HMk.out _ x.prop)
        go_wp2_with fail
        refine wp_region_bw (by kernel_rfl) (by kernel_rfl) ?_
        repeat (go_big_quiet_step ((go_at_call 159; exact bw_call (HMx.out _))))
        refine wpQuiet_nil ?_
        rintro w2 ⟨⟨_, hbw⟩, rfl⟩
        have HB1 := hid (HB.out.trans (hbw.mono HB.out.size))
        have HS2 : Hid (wr.heap.size ≤ w2.heap.size) := hid hbw.size
        clear hbw
        go_wp2_with fail
        go_ret
        exact ⟨by rw [HHit.out (by simp)]; rfl, HB1.out⟩
      · have HMx : Hid (∀ x : BW wr, Calls Try.prog 159 #[.agg #[.int .i64 yk, .string yn, .string yv], .agg #[.string m, .string h, .string p, .slice a0 hs.length cap0, .string b]] x.val fun e w' => e = .returned (.bool true) ∧ Below x.val.heap.size x.val w') := hid (fun x => HMk.out _ x.prop)
        go_wp2_with fail
        refine wp_region_bw (by kernel_rfl) (by kernel_rfl) ?_
        repeat (go_big_quiet_step ((go_at_call 159; exact bw_call (HMx.out _))))
        refine wpQuiet_nil ?_
        rintro w2 ⟨⟨_, hbw⟩, rfl⟩
        have HQ1 := hid (HQ.out.trans (hbw.mono HQ.out.size))
        have HB1 := hid (HB.out.trans (hbw.mono HB.out.size))
        have HS2 : Hid (wr.heap.size ≤ w2.heap.size) := hid hbw.size
        clear hbw
        go_wp2_with fail
        go_roundw
        case rel => exact ⟨k + 1, by omega, by go_num, HQ1.out, HNext.out (by simp)⟩
        case measure => simp [intOf]; omega
    · obtain rfl : k = l.length := by omega
      have hd : Hid (r = true) := hid (by
        rw [← HR.out]
        unfold allR
        rw [List.all_eq_true]
        intro x hx
        obtain ⟨i, hi, rfl⟩ := List.getElem_of_mem hx
        exact HN.out i hi hi)
      go_wp2_with fail
      go_ret
      exact ⟨by rw [hd.out]; rfl, HB.out⟩
end C11
end Go.Proofs.Ytmmmaldpalhjeaa
namespace Go.Proofs.Ytmmmaldpalhjeaa
open Go.RowKit Go.Peri
namespace C11
set_option maxRecDepth 100000 in
theorem few_any {p : Nat → Prop} (v : Value) (l : List Prd) (r : Bool) (W : World) (h : RowsOf p Prd.enc 3 W v l) (hp : ∀ b, p b → b < W.heap.size) (hw : ∀ x ∈ l, x.Wf) (hl : l.length ≤ 1000000000000000) (hr : Prd.few l = r) :
    Calls Try.prog 42 #[v] W fun e w' => e = .returned (.bool r) ∧ Below W.heap.size W w' := by
  obtain ⟨a, cap, rfl, hlc, hcm, _, hcell⟩ := h
  have HC := hid hcell
  have HP := hid hp
  have HWF := hid hw
  have HR := hid hr
  clear hcell hp hw hr
  by_cases h60 : 20 < l.length
  · have hd : Hid (Prd.few l = false) := hid (by unfold Prd.few; rw [decide_eq_false (by omega)]; rfl)
    go_enter Try.func42, Try.ntmps42
    go_wp2_with fail
    go_ret
    exact ⟨by rw [← HR.out, hd.out]; rfl, Below.refl _ _⟩
  go_enter Try.func42, Try.ntmps42
  go_wp2_with fail
  go_loopw [3] (fun i wr => ∃ k : Nat, k ≤ l.length ∧ i = .int .i64 k ∧ Below W.heap.size W wr ∧ ∀ j (_ : j < k) (h1 : j < l.length), Prd.fewB l[j] = true) (fun i _ => l.length - (intOf i).toNat)
  case atStart => exact ⟨0, Nat.zero_le _, rfl, Below.refl _ _, fun j hj => absurd hj (Nat.not_lt_zero _)⟩
  case round =>
    obtain ⟨k, hk, rfl, hb, hno⟩ := hrel
    have HB := hid hb
    have HN := hid hno
    clear hb hno
    by_cases hlt : k < l.length
    · obtain ⟨b, off, rfl, hpb, hc⟩ := HC.out.resolve_left (by intro e; rw [e] at hlt; simp at hlt)
      have hbl := HP.out b hpb
      have hcc := Prd.cells (fun j u hu => (HB.out.cell (p := ⟨b, off + k * 3 + j, none⟩) hbl).trans (hc k hlt j u hu))
      have HNext : Hid (Prd.fewB l[k] = true → ∀ j (_ : j < k + 1) (h1 : j < l.length), Prd.fewB l[j] = true) := by
        intro he j hj h1
        by_cases e : j = k
        · subst e; exact he
        · exact HN.out j (by omega) h1
      have HHit : Hid (Prd.fewB l[k] = false → Prd.few l = false) := fun h1 => by
        unfold Prd.few
        rw [Bool.and_eq_false_iff]
        right
        rw [List.all_eq_false]
        exact ⟨l[k], List.getElem_mem hlt, by rw [Bool.not_eq_true]; exact h1⟩
      have hwy := HWF.out l[k] (List.getElem_mem hlt)
      clear hc
      generalize l[k] = y at hcc HNext HHit hwy
      have hy1 := hwy.name
      have hy2 := hwy.value
      have hk1 : (k : Int) < (l.length : Int) := by omega
      have HF : Hid (Prd.fewB y = decide (y.name.size + y.value.size ≤ 400)) := hid rfl
      obtain ⟨n1, hn1⟩ : ∃ n, n = y.name.size := ⟨_, rfl⟩
      obtain ⟨n2, hn2⟩ : ∃ n, n = y.value.size := ⟨_, rfl⟩
      rw [← hn1] at hy1 HF
      rw [← hn2] at hy2 HF
      by_cases hs : n1 + n2 ≤ 400
      · have HV := hid (HNext.out (by rw [HF.out]; exact decide_eq_true hs))
        have hwr : IntKind.i64.wrap ((n1 : Int) + (n2 : Int)) = (n1 : Int) + (n2 : Int) := IntWalk.i64_in _ (by omega)
        have hle : ¬ (400 : Int) < (n1 : Int) + (n2 : Int) := by omega
        rw [hn1, hn2] at hwr hle
        clear hwy HHit HNext hn1 hn2
        obtain ⟨c0, c1, c2⟩ := hcc
        go_wp2_with fail
        go_quiet (fail)
        go_wp2_with fail
        go_roundw
        case rel => exact ⟨k + 1, by omega, by go_num, HB.out.trans ⟨rfl, rfl, rfl, Nat.le_refl _, fun _ _ => rfl⟩, HV.out⟩
        case measure => simp [intOf]; omega
      · have HV := hid (HHit.out (by rw [HF.out]; exact decide_eq_false hs))
        have hwr : IntKind.i64.wrap ((n1 : Int) + (n2 : Int)) = (n1 : Int) + (n2 : Int) := IntWalk.i64_in _ (by omega)
        have hle : (400 : Int) < (n1 : Int) + (n2 : Int) := by omega
        rw [hn1, hn2] at hwr hle
        clear hwy HHit HNext hn1 hn2
        obtain ⟨c0, c1, c2⟩ := hcc
        go_wp2_with fail
        go_quiet (fail)
        go_wp2_with fail
        go_ret
        exact ⟨by rw [← HR.out, HV.out]; rfl, HB.out.trans ⟨rfl, rfl, rfl, Nat.le_refl _, fun _ _ => rfl⟩⟩
    · obtain rfl : k = l.length := by omega
      have hd : Hid (Prd.few l = true) := hid (by
        unfold Prd.few
        rw [decide_eq_true (by omega), Bool.true_and, List.all_eq_true]
        intro x hx
        obtain ⟨i, hi, rfl⟩ := List.getElem_of_mem hx
        exact HN.out i hi hi)
      go_wp2_with fail
      go_ret
      exact ⟨by rw [← HR.out, hd.out]; rfl, HB.out⟩
def fewH (h : Hd) : Bool := decide (h.name.size + h.value.size ≤ 400)
def short (m h q b : ByteArray) (l : List Hd) : Bool := decide (m.size + h.size + q.size + b.size ≤ 2000) && Hd.few40 l
theorem short_len {m h q b : ByteArray} {l : List Hd} (hr : short m h q b l = true) : m.size + h.size + q.size + b.size ≤ 2000 ∧ l.length ≤ 40 := by
  unfold short Hd.few40 at hr
  rw [Bool.and_eq_true, Bool.and_eq_true] at hr
  exact ⟨of_decide_eq_true hr.1, of_decide_eq_true hr.2.1⟩
set_option maxRecDepth 100000 in
set_option maxHeartbeats 1000000 in
theorem short_any {p : Nat → Prop} (m h q b : ByteArray) (l : List Hd) (a : Option Addr) (cap : Nat) (r : Bool) (W : World) (hrow : RowsOf p Hd.enc 2 W (.slice a l.length cap) l) (hp : ∀ b, p b → b < W.heap.size) (hw : ∀ x ∈ l, x.Wf) (hl : l.length ≤ 1000000000000000)
    (hm : m.size ≤ 140737488351232) (hh : h.size ≤ 140737488351232) (hq : q.size ≤ 140737488351232) (hbs : b.size ≤ 140737488351232) (hr : short m h q b l = r) :
    Calls Try.prog 48 #[.agg #[.string m, .string h, .string q, .slice a l.length cap, .string b]] W fun e w' => e = .returned (.bool r) ∧ Below W.heap.size W w' := by
  obtain ⟨a', cap', e9, hlc, hcm, _, hcell⟩ := hrow
  cases e9
  have HC := hid hcell
  have HP := hid hp
  have HWF := hid hw
  have HZ := hid (Blk.new W #[.string m, .string h, .string q, .slice a l.length cap, .string b] 67)
  have HB0 : Hid (Below W.heap.size W (W.alloc (.cells #[.string m, .string h, .string q, .slice a l.length cap, .string b] 67))) := by show Below _ _ _; go_grown
  unfold short at hr
  clear hcell hp hw
  by_cases h2 : m.size + h.size + q.size + b.size ≤ 2000
  · have g1 : ¬ (2000 : Int) < (m.size : Int) + (h.size : Int) + (q.size : Int) + (b.size : Int) := by omega
    rw [decide_eq_true h2, Bool.true_and] at hr
    have HR := hid hr
    clear h2 hr
    by_cases h40 : 40 < l.length
    · have hd : Hid (Hd.few40 l = false) := hid (by unfold Hd.few40; rw [decide_eq_false (by omega)]; rfl)
      have g2 : (40 : Int) < (l.length : Int) := by omega
      go_enter Try.func48, Try.ntmps48
      go_wp2_with fail
      go_ret
      exact ⟨by rw [← HR.out, hd.out]; rfl, HB0.out⟩
    have g2 : ¬ (40 : Int) < (l.length : Int) := by omega
    have HR1 := HR
    clear HR
    have HR : Hid (Hd.few40 l = r) := HR1
    go_enter Try.func48, Try.ntmps48
    go_wp2_with fail
    go_loopw [3] (fun i wr => ∃ k : Nat, k ≤ l.length ∧ i = .int .i64 k ∧ Below (W.alloc (.cells #[.string m, .string h, .string q, .slice a l.length cap, .string b] 67)).heap.size (W.alloc (.cells #[.string m, .string h, .string q, .slice a l.length cap, .string b] 67)) wr ∧ ∀ j (_ : j < k) (h1 : j < l.length), fewH l[j] = true) (fun i _ => l.length - (intOf i).toNat)
    case atStart => exact ⟨0, Nat.zero_le _, rfl, Below.refl _ _, fun j hj => absurd hj (Nat.not_lt_zero _)⟩
    case round =>
      obtain ⟨k, hk, rfl, hb, hno⟩ := hrel
      have HQ : Hid (Below (W.alloc (.cells #[.string m, .string h, .string q, .slice a l.length cap, .string b] 67)).heap.size (W.alloc (.cells #[.string m, .string h, .string q, .slice a l.length cap, .string b] 67)) wr) := hid hb
      have hz := HZ.out.later hb
      have q3 : wr.cell? ⟨W.heap.size, 3, none⟩ = some (.slice a l.length cap) := hz.cell 3
      have hlt0 := hz.lt
      replace hb : Below W.heap.size W wr := HB0.out.trans (hb.mono HB0.out.size)
      clear hz
      have HB := hid hb
      have HN := hid hno
      clear hb hno
      by_cases hlt : k < l.length
      · obtain ⟨b, off, rfl, hpb, hc⟩ := HC.out.resolve_left (by intro e; rw [e] at hlt; simp at hlt)
        have hbl := HP.out b hpb
        have hcc := Hd.cells (fun j u hu => (HB.out.cell (p := ⟨b, off + k * 2 + j, none⟩) hbl).trans (hc k hlt j u hu))
        have HNext : Hid (fewH l[k] = true → ∀ j (_ : j < k + 1) (h1 : j < l.length), fewH l[j] = true) := by
          intro he j hj h1
          by_cases e : j = k
          · subst e; exact he
          · exact HN.out j (by omega) h1
        have HHit : Hid (fewH l[k] = false → Hd.few40 l = false) := fun h1 => by
          unfold Hd.few40
          rw [Bool.and_eq_false_iff]
          right
          rw [List.all_eq_false]
          exact ⟨l[k], List.getElem_mem hlt, by rw [Bool.not_eq_true]; exact h1⟩
        have hwy := HWF.out l[k] (List.getElem_mem hlt)
        clear hc
        generalize l[k] = y at hcc HNext HHit hwy
        have hy1 := hwy.name
        have hy2 := hwy.value
        have hk1 : (k : Int) < (l.length : Int) := by omega
        have HF : Hid (fewH y = decide (y.name.size + y.value.size ≤ 400)) := hid rfl
        obtain ⟨n1, hn1⟩ : ∃ n, n = y.name.size := ⟨_, rfl⟩
        obtain ⟨n2, hn2⟩ : ∃ n, n = y.value.size := ⟨_, rfl⟩
        rw [← hn1] at hy1 HF
        rw [← hn2] at hy2 HF
        by_cases hs : n1 + n2 ≤ 400
        · have HV := hid (HNext.out (by rw [HF.out]; exact decide_eq_true hs))
          have hwr : IntKind.i64.wrap ((n1 : Int) + (n2 : Int)) = (n1 : Int) + (n2 : Int) := IntWalk.i64_in _ (by omega)
          have hle : ¬ (400 : Int) < (n1 : Int) + (n2 : Int) := by omega
          rw [hn1, hn2] at hwr hle
          clear hwy HHit HNext hn1 hn2
          obtain ⟨c0, c1⟩ := hcc
          go_wp2_with fail
          go_quiet (fail)
          go_wp2_with fail
          go_roundw
          case rel => exact ⟨k + 1, by omega, by go_num, HQ.out.trans ⟨rfl, rfl, rfl, Nat.le_refl _, fun _ _ => rfl⟩, HV.out⟩
          case measure => simp [intOf]; omega
        · have HV := hid (HHit.out (by rw [HF.out]; exact decide_eq_false hs))
          have hwr : IntKind.i64.wrap ((n1 : Int) + (n2 : Int)) = (n1 : Int) + (n2 : Int) := IntWalk.i64_in _ (by omega)
          have hle : (400 : Int) < (n1 : Int) + (n2 : Int) := by omega
          rw [hn1, hn2] at hwr hle
          clear hwy HHit HNext hn1 hn2
          obtain ⟨c0, c1⟩ := hcc
          go_wp2_with fail
          go_quiet (fail)
          go_wp2_with fail
          go_ret
          exact ⟨by rw [← HR.out, HV.out]; rfl, HB.out.trans ⟨rfl, rfl, rfl, Nat.le_refl _, fun _ _ => rfl⟩⟩
      · obtain rfl : k = l.length := by omega
        have hd : Hid (Hd.few40 l = true) := hid (by
          unfold Hd.few40
          rw [decide_eq_true (by omega), Bool.true_and, List.all_eq_true]
          intro x hx
          obtain ⟨i, hi, rfl⟩ := List.getElem_of_mem hx
          exact HN.out i hi hi)
        go_wp2_with fail
        go_ret
        exact ⟨by rw [← HR.out, hd.out]; rfl, HB.out⟩
  · have g1 : (2000 : Int) < (m.size : Int) + (h.size : Int) + (q.size : Int) + (b.size : Int) := by omega
    rw [decide_eq_false h2, Bool.false_and] at hr
    subst hr
    clear h2
    go_enter Try.func48, Try.ntmps48
    go_wp2_with fail
    go_ret
    exact ⟨rfl, HB0.out⟩
end C11
end Go.Proofs.Ytmmmaldpalhjeaa
namespace Go.Proofs.Ytmmmaldpalhjeaa
open Go.RowKit Go.Peri
namespace C11
def checkR (k : Int) (n v : ByteArray) : Int :=
  if k = 1 then (if n.size ≠ 0 then 2 else if methodOk v = true then 0 else 3)
  else if k = 2 then (if n.size ≠ 0 then 2 else if Hd.nameOk v = true then 0 else 7)
  else if k = 3 then (if n.size ≠ 0 then 2 else if pathOk v = true then 0 else 12)
  else if k = 4 then (if n.size ≠ 0 then 2 else if pathOk v = true then 0 else 12)
  else if k = 5 then (if Hd.nameOk n = true then (if Hd.valueOk v = true then 0 else 15) else 7)
  else if k = 6 then (if v.size ≠ 0 then 2 else if Hd.nameOk n = true then 0 else 7)
  else 2
theorem pcheck_any (k : Int) (n v : ByteArray) (r : Int) (W : World) (hn : n.size ≤ 1000000000000000) (hv : v.size ≤ 1000000000000000) (hr : checkR k n v = r) :
    Calls Try.prog 98 #[.agg #[.int .i64 k, .string n, .string v]] W fun e w' => e = .returned (.int .i64 r) ∧ Below W.heap.size W w' := by
  unfold checkR at hr
  by_cases h1 : k = 1
  · rw [if_pos h1] at hr
    subst h1
    exact pcheck1 n v r W hv hr
  rw [if_neg h1] at hr
  by_cases h2 : k = 2
  · rw [if_pos h2] at hr
    subst h2
    exact pcheck2 n v r W hv hr
  rw [if_neg h2] at hr
  by_cases h3 : k = 3
  · rw [if_pos h3] at hr
    subst h3
    exact pcheck3 n v r W hv hr
  rw [if_neg h3] at hr
  by_cases h4 : k = 4
  · rw [if_pos h4] at hr
    subst h4
    exact pcheck4 n v r W hv hr
  rw [if_neg h4] at hr
  by_cases h5 : k = 5
  · rw [if_pos h5] at hr
    subst h5
    exact pcheck5 n v r W hn hv hr
  rw [if_neg h5] at hr
  by_cases h6 : k = 6
  · rw [if_pos h6] at hr
    subst h6
    exact pcheck6 n v r W hn hr
  rw [if_neg h6] at hr
  subst hr
  exact pcheck0 k n v W (by omega)
theorem rcheck_any (k : Int) (n v : ByteArray) (r : Int) (W : World) (hn : n.size ≤ 1000000000000000) (hv : v.size ≤ 1000000000000000) (hr : checkR k n v = r) :
    Calls Try.prog 103 #[.agg #[.int .i64 k, .string n, .string v]] W fun e w' => e = .returned (.int .i64 r) ∧ Below W.heap.size W w' := by
  unfold checkR at hr
  by_cases h1 : k = 1
  · rw [if_pos h1] at hr
    subst h1
    exact rcheck1 n v r W hv hr
  rw [if_neg h1] at hr
  by_cases h2 : k = 2
  · rw [if_pos h2] at hr
    subst h2
    exact rcheck2 n v r W hv hr
  rw [if_neg h2] at hr
  by_cases h3 : k = 3
  · rw [if_pos h3] at hr
    subst h3
    exact rcheck3 n v r W hv hr
  rw [if_neg h3] at hr
  by_cases h4 : k = 4
  · rw [if_pos h4] at hr
    subst h4
    exact rcheck4 n v r W hv hr
  rw [if_neg h4] at hr
  by_cases h5 : k = 5
  · rw [if_pos h5] at hr
    subst h5
    exact rcheck5 n v r W hn hv hr
  rw [if_neg h5] at hr
  by_cases h6 : k = 6
  · rw [if_pos h6] at hr
    subst h6
    exact rcheck6 n v r W hn hr
  rw [if_neg h6] at hr
  subst hr
  exact rcheck0 k n v W (by omega)
def kHs : List Hd := [⟨⟨#[107]⟩, ⟨#[118]⟩⟩]
end C11
end Go.Proofs.Ytmmmaldpalhjeaa
namespace Go.Peri
open Go.RowKit
/-- A rule: its predicates lie where pa says. -/
structure Rl where
  rank : Int
  pa : Option Addr
  pcap : Nat
  preds : List Prd
  target : ByteArray
  ap : Int
  as_ : Int
  dp : Int
  dt : Int
  mp : Int
  mirror : ByteArray
  sample : Int
namespace Rl
def enc (r : Rl) : List Value := [.int .i64 r.rank, .slice r.pa r.preds.length r.pcap, .string r.target, .int .i64 r.ap, .int .i64 r.as_, .int .i64 r.dp, .int .i64 r.dt, .int .i64 r.mp, .string r.mirror, .int .i64 r.sample]
theorem enc_length (r : Rl) : r.enc.length = 10 := rfl
def ty : Ty := .cons (.int .i64) (.cons (.slice 40 Prd.ty) (.cons .str (.cons (.int .i64) (.cons (.int .i64) (.cons (.int .i64) (.cons (.int .i64) (.cons (.int .i64) (.cons .str (.cons (.int .i64) .nil)))))))))
/-- What is known of a rule that came in. -/
structure Wf (w : World) (B : Nat) (r : Rl) : Prop where
  rows : RowsOf (· < B) Prd.enc 3 w (.slice r.pa r.preds.length r.pcap) r.preds
  len : r.preds.length * 40 ≤ 140737488351232
  preds : ∀ x ∈ r.preds, x.Wf
  rank : Sp.I64 r.rank
  target : r.target.size ≤ 140737488351232
  mirror : r.mirror.size ≤ 140737488351232
theorem Wf.below {w w' : World} {B : Nat} {r : Rl} (h : Wf w B r) (hb : Below B w w') : Wf w' B r := ⟨h.rows.below hb (fun _ h => h), h.len, h.preds, h.rank, h.target, h.mirror⟩
theorem of_rd {w : World} {B : Nat} {cs : List Value} (h : Rd w B ty cs) : ∃ r : Rl, cs = r.enc ∧ Wf w B r := by
  obtain ⟨_, _, rfl, _, a0, h⟩ := h
  obtain ⟨c1, _, rfl, hl1, a1, h⟩ := h
  obtain ⟨_, _, rfl, _, a2, h⟩ := h
  obtain ⟨_, _, rfl, _, a3, h⟩ := h
  obtain ⟨_, _, rfl, _, a4, h⟩ := h
  obtain ⟨_, _, rfl, _, a5, h⟩ := h
  obtain ⟨_, _, rfl, _, a6, h⟩ := h
  obtain ⟨_, _, rfl, _, a7, h⟩ := h
  obtain ⟨_, _, rfl, _, a8, h⟩ := h
  obtain ⟨_, _, rfl, _, a9, h⟩ := h
  obtain ⟨n0, rfl, g0⟩ := Sp.rd_i64 a0
  obtain ⟨t, rfl, g2⟩ := Hd.rd_str a2
  obtain ⟨n3, rfl, _⟩ := Sp.rd_i64 a3
  obtain ⟨n4, rfl, _⟩ := Sp.rd_i64 a4
  obtain ⟨n5, rfl, _⟩ := Sp.rd_i64 a5
  obtain ⟨n6, rfl, _⟩ := Sp.rd_i64 a6
  obtain ⟨n7, rfl, _⟩ := Sp.rd_i64 a7
  obtain ⟨m, rfl, g8⟩ := Hd.rd_str a8
  obtain ⟨n9, rfl, _⟩ := Sp.rd_i64 a9
  have e1 : (_ : List Value) = [] := h
  subst e1
  obtain ⟨v1, rfl⟩ : ∃ v, c1 = [v] := by
    match c1, hl1 with
    | [v], _ => exact ⟨v, rfl⟩
  obtain ⟨l, k1, k2, k3⟩ := preds_of_arg (v := v1) a1
  obtain ⟨a, cap, rfl⟩ : ∃ a cap, v1 = .slice a l.length cap := by
    obtain ⟨a, cap, e, _⟩ := k1
    exact ⟨a, cap, e⟩
  exact ⟨⟨n0, a, cap, l, t, n3, n4, n5, n6, n7, m, n9⟩, rfl, ⟨k1, k2, k3, g0, g2, g8⟩⟩
theorem cells {y : Rl} {w : World} {b o : Nat} (h : ∀ j u, y.enc[j]? = some u → w.cell? ⟨b, o + j, none⟩ = some u) :
    w.cell? ⟨b, o, none⟩ = some (.int .i64 y.rank) ∧ w.cell? ⟨b, o + 1, none⟩ = some (.slice y.pa y.preds.length y.pcap) ∧ w.cell? ⟨b, o + 2, none⟩ = some (.string y.target) ∧ w.cell? ⟨b, o + 3, none⟩ = some (.int .i64 y.ap) ∧ w.cell? ⟨b, o + 4, none⟩ = some (.int .i64 y.as_) ∧ w.cell? ⟨b, o + 5, none⟩ = some (.int .i64 y.dp) ∧ w.cell? ⟨b, o + 6, none⟩ = some (.int .i64 y.dt) ∧ w.cell? ⟨b, o + 7, none⟩ = some (.int .i64 y.mp) ∧ w.cell? ⟨b, o + 8, none⟩ = some (.string y.mirror) ∧ w.cell? ⟨b, o + 9, none⟩ = some (.int .i64 y.sample) :=
  ⟨h 0 _ rfl, h 1 _ rfl, h 2 _ rfl, h 3 _ rfl, h 4 _ rfl, h 5 _ rfl, h 6 _ rfl, h 7 _ rfl, h 8 _ rfl, h 9 _ rfl⟩
theorem one (l : List Rl) : ∀ u ∈ l.flatMap Rl.enc, u.oneCell' = true := by
  intro u hu
  obtain ⟨o, _, ho⟩ := List.mem_flatMap.1 hu
  simp only [Rl.enc, List.mem_cons, List.not_mem_nil, or_false] at ho
  rcases ho with rfl | rfl | rfl | rfl | rfl | rfl | rfl | rfl | rfl | rfl <;> rfl
def fewB (r : Rl) : Bool := Prd.few r.preds && decide (r.target.size + r.mirror.size ≤ 400)
def few (l : List Rl) : Bool := decide (l.length ≤ 40) && l.all fewB
theorem few_len {l : List Rl} (h : few l = true) : l.length ≤ 40 := by
  unfold few at h
  rw [Bool.and_eq_true] at h
  exact of_decide_eq_true h.1
theorem few_preds {l : List Rl} (h : few l = true) : ∀ r ∈ l, r.preds.length ≤ 20 := by
  unfold few at h
  rw [Bool.and_eq_true, List.all_eq_true] at h
  intro r hr
  have := h.2 r hr
  unfold fewB at this
  rw [Bool.and_eq_true] at this
  exact Prd.few_len this.1
end Rl
theorem rules_of_arg {w : World} {B : Nat} {v : Value} (h : Arg w B (.slice 112 Rl.ty) v) : ∃ l : List Rl, RowsOf (· < B) Rl.enc 10 w v l ∧ l.length * 112 ≤ 140737488351232 ∧ (∀ x ∈ l, x.Wf w B) := by
  obtain ⟨l, h1, h2, h3⟩ := rows_of_arg (enc := Rl.enc) (wf := Rl.Wf w B) (e := Rl.ty) (fun _ => rfl) (fun cs hc => Rl.of_rd hc) h
  exact ⟨l, h1, h2, h3⟩
/-- A table's version, rules, and format. -/
def tabTy : Ty := .cons (.int .i64) (.cons (.slice 112 Rl.ty) (.cons .str .nil))
structure TabV (w : World) (B : Nat) (l : List Rl) (a : Option Addr) (cap : Nat) (f : ByteArray) : Prop where
  rows : RowsOf (· < B) Rl.enc 10 w (.slice a l.length cap) l
  len : l.length * 112 ≤ 140737488351232
  wf : ∀ x ∈ l, x.Wf w B
  f : f.size ≤ 140737488351232
theorem TabV.below {w w' : World} {B : Nat} {l : List Rl} {a : Option Addr} {cap : Nat} {f : ByteArray} (h : TabV w B l a cap f) (hb : Below B w w') : TabV w' B l a cap f := ⟨h.rows.below hb (fun _ h => h), h.len, fun x hx => (h.wf x hx).below hb, h.f⟩
theorem tab_of_arg {w : World} {B : Nat} {v : Value} (h : Arg w B tabTy v) : ∃ (n : Int) (l : List Rl) (a : Option Addr) (cap : Nat) (f : ByteArray), v = .agg #[.int .i64 n, .slice a l.length cap, .string f] ∧ TabV w B l a cap f := by
  obtain ⟨cs, rfl, h⟩ : ∃ cs, v = .agg cs ∧ Rd w B tabTy cs.toList := h
  obtain ⟨_, _, e, _, a0, h⟩ := h
  obtain ⟨c1, _, rfl, hl1, a1, h⟩ := h
  obtain ⟨_, _, rfl, _, a2, h⟩ := h
  obtain ⟨n, rfl, _⟩ := Sp.rd_i64 a0
  obtain ⟨f, rfl, g2⟩ := Hd.rd_str a2
  have e1 : (_ : List Value) = [] := h
  subst e1
  obtain ⟨v1, rfl⟩ : ∃ v, c1 = [v] := by
    match c1, hl1 with
    | [v], _ => exact ⟨v, rfl⟩
  obtain ⟨l, k1, k2, k3⟩ := rules_of_arg (v := v1) a1
  obtain ⟨a, cap, rfl⟩ : ∃ a cap, v1 = .slice a l.length cap := by
    obtain ⟨a, cap, e, _⟩ := k1
    exact ⟨a, cap, e⟩
  refine ⟨n, l, a, cap, f, ?_, ⟨k1, k2, k3, g2⟩⟩
  congr 1
  apply Array.toList_inj.1
  rw [e]
  rfl
theorem i8s_three {w : World} {B : Nat} {v : Value} (h : Arg w B (.cons (.int .i8) (.cons (.int .i8) (.cons (.int .i8) .nil))) v) : ∃ a b c : Int, v = .agg #[.int .i8 a, .int .i8 b, .int .i8 c] ∧ (-128 ≤ a ∧ a ≤ 127) ∧ (-128 ≤ b ∧ b ≤ 127) ∧ (-128 ≤ c ∧ c ≤ 127) := by
  obtain ⟨cs, rfl, c1, c2, e, _, h1, c3, c4, e2, _, h2, c5, c6, e3, _, h3, h4⟩ := h
  obtain ⟨x, rfl, hx⟩ := h1
  obtain ⟨y, rfl, hy⟩ := h2
  obtain ⟨z, rfl, hz⟩ := h3
  have h5 : c6 = [] := h4
  subst h5
  have k : ∀ n : Int, (Lit.int .i8 n).wf = true → -128 ≤ n ∧ n ≤ 127 := fun n hw => by
    have h : IntKind.i8.min ≤ n ∧ n ≤ IntKind.i8.max := by simpa [Lit.wf] using hw
    exact h
  refine ⟨x, y, z, ?_, k x hx, k y hy, k z hz⟩
  congr 1
  apply Array.toList_inj.1
  rw [e, e2, e3]
  rfl
end Go.Peri
namespace Go.Proofs.Ytmmmaldpalhjeaa
open Go.RowKit Go.Peri
namespace C12
def inB (n lo hi : Int) : Bool := decide (lo ≤ n) && decide (n ≤ hi)
theorem within_any (n lo hi : Int) (b : Bool) (w : World) (hb : inB n lo hi = b) : Calls Try.prog 97 #[.int .i64 n, .int .i64 lo, .int .i64 hi] w fun e w' => e = .returned (.bool b) ∧ w = w' := by
  subst hb
  unfold inB
  by_cases h1 : lo ≤ n
  · have hd : decide (lo ≤ n) = true := by simpa using h1
    rw [hd]
    go_enter Try.func97, Try.ntmps97
    go_wp2
    go_ret
    exact ⟨by simp, rfl⟩
  · have hd : decide (lo ≤ n) = false := by simpa using h1
    rw [hd]
    go_enter Try.func97, Try.ntmps97
    go_wp2
    go_ret
    exact ⟨by simp, rfl⟩
theorem part_any (n : Int) (b : Bool) (w : World) (hb : inB n 0 100 = b) : Calls Try.prog 105 #[.int .i64 n] w fun e w' => e = .returned (.bool b) ∧ w = w' := by
  subst hb
  unfold inB
  by_cases h1 : 0 ≤ n
  · have hd : decide (0 ≤ n) = true := by simpa using h1
    rw [hd]
    go_enter Try.func105, Try.ntmps105
    go_wp2
    go_ret
    exact ⟨by simp, rfl⟩
  · have hd : decide (0 ≤ n) = false := by simpa using h1
    rw [hd]
    go_enter Try.func105, Try.ntmps105
    go_wp2
    go_ret
    exact ⟨by simp, rfl⟩
def sizedB (n lo hi pct : Int) : Bool := inB n lo hi || (decide (n = 0) && decide (pct = 0))
theorem sized_any (n lo hi pct : Int) (b : Bool) (w : World) (hb : sizedB n lo hi pct = b) : Calls Try.prog 102 #[.int .i64 n, .int .i64 lo, .int .i64 hi, .int .i64 pct] w fun e w' => e = .returned (.bool b) ∧ w = w' := by
  subst hb
  obtain ⟨q, hq⟩ : ∃ q, inB n lo hi = q := ⟨_, rfl⟩
  have HW := hid (fun w => within_any n lo hi q w hq)
  unfold sizedB
  rw [hq]
  clear hq
  cases q
  · by_cases h0 : n = 0
    · subst h0
      by_cases hp : pct = 0
      · subst hp
        go_enter Try.func102, Try.ntmps102
        go_wp2_with fail
        refine (HW.out _).mono ?_
        rintro e w' ⟨rfl, rfl⟩
        go_wp2_with fail
        go_ret
        exact ⟨rfl, rfl⟩
      · have hp2 : (pct == 0) = false := by simpa using hp
        go_enter Try.func102, Try.ntmps102
        go_wp2_with fail
        refine (HW.out _).mono ?_
        rintro e w' ⟨rfl, rfl⟩
        go_wp2_with fail
        go_ret
        exact ⟨by simp [hp], rfl⟩
    · have h02 : (n == 0) = false := by simpa using h0
      go_enter Try.func102, Try.ntmps102
      go_wp2_with fail
      refine (HW.out _).mono ?_
      rintro e w' ⟨rfl, rfl⟩
      go_wp2_with fail
      go_ret
      exact ⟨by simp [h0], rfl⟩
  · go_enter Try.func102, Try.ntmps102
    go_wp2_with fail
    refine (HW.out _).mono ?_
    rintro e w' ⟨rfl, rfl⟩
    go_wp2_with fail
    go_ret
    exact ⟨rfl, rfl⟩
theorem parts1_any (n : Int) (b : Bool) (w : World) (hb : inB n 0 100 = b) : Calls Try.prog 155 #[.int .i64 n] w fun e w' => e = .returned (.bool (!b)) ∧ w = w' := by
  have HW := hid (fun w => within_any n 0 100 b w hb)
  clear hb
  go_enter Try.func155, Try.ntmps155
  go_wp2_with fail
  refine (HW.out _).mono ?_
  rintro e w' ⟨rfl, rfl⟩
  go_wp2_with fail
  go_ret
  exact ⟨rfl, rfl⟩
theorem in_any {p : Nat → Prop} (v : Value) (ns : List ByteArray) (s : ByteArray) (r : Bool) (W : World) (h : RowsOf p sEnc 1 W v ns) (hl : ns.length ≤ 1000000000000) (hr : ns.any (fun x => decide (x = s)) = r) :
    Calls Try.prog 104 #[v, .string s] W fun e w' => e = .returned (.bool r) ∧ W = w' := by
  obtain ⟨a, cap, rfl, h2, h3, h4, h5⟩ := h
  have H5 := hid h5
  have HR := hid hr
  clear h5 h4 hr
  go_enter Try.func104, Try.ntmps104
  go_wp2_with fail
  go_loop [5] (fun i => ∃ k : Nat, k ≤ ns.length ∧ i = .int .i64 k ∧ Hid ((ns.take k).any (fun x => decide (x = s)) = false)) (fun i => ns.length - (intOf i).toNat)
  case atStart => exact ⟨0, Nat.zero_le _, rfl, hid rfl⟩
  case round =>
    obtain ⟨k, hk, rfl, hno⟩ := hrel
    by_cases hk2 : k < ns.length
    · obtain ⟨x, hx⟩ : ∃ x, ns[k] = x := ⟨_, rfl⟩
      obtain ⟨b, off, rfl, hc⟩ : ∃ b off, a = some ⟨b, off, none⟩ ∧ W.cell? ⟨b, off + k, none⟩ = some (.string x) := by
        rcases H5.out with h0 | ⟨b, off, h1, _, h3⟩
        · rw [h0] at hk2; simp at hk2
        · refine ⟨b, off, h1, ?_⟩
          have := h3 k hk2 0 (.string x) (by rw [hx]; rfl)
          simpa using this
      have HT : Hid (ns.take (k + 1) = ns.take k ++ [x]) := by show _ = _; rw [List.take_succ_eq_append_getElem hk2, hx]
      have HM : Hid (x ∈ ns) := by show _; rw [← hx]; exact List.getElem_mem hk2
      by_cases he : x = s
      · have hq : (x.toList == s.toList) = true := by rw [bytes_beq]; simpa using he
        have HRT : Hid (r = true) := by
          show _ = _
          rw [← HR.out, List.any_eq_true]
          exact ⟨x, HM.out, by simpa using he⟩
        clear he
        go_wp2_with fail
        go_ret
        exact ⟨by rw [HRT.out]; rfl, rfl⟩
      · have hq : (x.toList == s.toList) = false := by rw [bytes_beq]; simpa using he
        have HN : Hid ((ns.take (k + 1)).any (fun x => decide (x = s)) = false) := by show _ = _; rw [HT.out, List.any_append, hno.out]; simpa using he
        clear he
        go_wp2_with fail
        go_round
        case rel => exact ⟨k + 1, by omega, by go_num, HN⟩
        case measure => simp [intOf]; omega
    · obtain rfl : k = ns.length := by omega
      have HRF : Hid (r = false) := by show _ = _; have := hno.out; rw [List.take_length] at this; rw [← HR.out, this]
      go_wp2_with fail
      go_ret
      exact ⟨by rw [HRF.out]; rfl, rfl⟩
end C12
end Go.Proofs.Ytmmmaldpalhjeaa
namespace Go.Proofs.Ytmmmaldpalhjeaa
open Go.RowKit Go.Peri
namespace C12
/-- The first predicate that may not be, and why. -/
def bad : List Prd → Int
  | [] => 0
  | x :: l => if C11.checkR x.kind x.name x.value = 0 then bad l else C11.checkR x.kind x.name x.value
def isIn (ns : List ByteArray) (s : ByteArray) : Bool := ns.any (fun x => decide (x = s))
def checkR (rank : Int) (ps : List Prd) (target : ByteArray) (ap as_ dp dt mp : Int) (mirror : ByteArray) (sample : Int) (ns : List ByteArray) : Int :=
  if inB rank 0 99 = false then 12
  else if 4 < ps.length then 8
  else if bad ps ≠ 0 then bad ps
  else if isIn ns target = false then 7
  else if mirror.size ≠ 0 ∧ isIn ns mirror = false then 7
  else if [ap, dp, mp, sample].all (fun n => inB n 0 100) = false then 12
  else if sizedB as_ 400 599 ap = false then 12
  else if sizedB dt 1 50 dp = false then 12
  else if 0 < mp ∧ mirror.size = 0 then 9 else 0
theorem bad_drop (ps : List Prd) (k : Nat) (h : k < ps.length) : bad (ps.drop k) = if C11.checkR ps[k].kind ps[k].name ps[k].value = 0 then bad (ps.drop (k + 1)) else C11.checkR ps[k].kind ps[k].name ps[k].value := by
  rw [List.drop_eq_getElem_cons h]; rfl
set_option maxRecDepth 100000 in
theorem parts_any (g : Nat) (l : List Int) (r : Bool) (w : World) (hc : ∀ k (hk : k < l.length), w.cell? ⟨g, k, none⟩ = some (.int .i64 l[k])) (hl : l.length ≤ 1000) (hr : l.all (fun n => inB n 0 100) = r) :
    Calls Try.prog 101 #[.slice (some ⟨g, 0, none⟩) l.length l.length] w fun e w' => e = .returned (.bool r) ∧ w = w' := by
  have HIX : Hid (Calls Try.prog 191 #[.slice (some ⟨g, 0, none⟩) l.length l.length, .func (.func 155) #[] #[]] w fun e w' => (∃ i : Int, e = .returned (.int .i64 i) ∧ decide (0 ≤ i) = !r) ∧ w = w') := by
    show Calls _ _ _ _ _
    have HC := hid hc
    have HR := hid hr
    clear hc hr
    go_enter Try.func191, Try.ntmps191
    go_wp2_with fail
    go_loop [8] (fun i => ∃ k : Nat, k ≤ l.length ∧ i = .int .i64 k ∧ Hid ((l.take k).all (fun n => inB n 0 100) = true)) (fun i => l.length - (intOf i).toNat)
    case atStart => exact ⟨0, Nat.zero_le _, rfl, hid rfl⟩
    case round =>
      obtain ⟨k, hk, rfl, hall⟩ := hrel
      by_cases hk2 : k < l.length
      · obtain ⟨x, hx⟩ : ∃ x, l[k] = x := ⟨_, rfl⟩
        have hcell := HC.out k hk2
        rw [hx] at hcell
        obtain ⟨q, hq⟩ : ∃ q, inB x 0 100 = q := ⟨_, rfl⟩
        have HT : Hid ((l.take (k + 1)).all (fun n => inB n 0 100) = q) := by show _ = _; rw [List.take_succ_eq_append_getElem hk2, List.all_append, hall.out, hx]; simp [hq]
        have HF : Hid (q = false → r = false) := hid (fun h => by
          subst h
          rw [← HR.out, List.all_eq_false]
          exact ⟨x, by rw [← hx]; exact List.getElem_mem hk2, by simp [hq]⟩)
        have HP := hid (fun w => parts1_any x q w hq)
        clear hq
        cases q
        · have HRF : Hid (r = false) := hid (HF.out rfl)
          clear HF
          go_wp2_with fail
          refine (HP.out _).mono ?_
          rintro e w' ⟨rfl, rfl⟩
          go_wp2_with fail
          go_ret
          exact ⟨⟨_, rfl, by rw [HRF.out]; simp⟩, rfl⟩
        · go_wp2_with fail
          refine (HP.out _).mono ?_
          rintro e w' ⟨rfl, rfl⟩
          go_wp2_with fail
          go_round
          case rel => exact ⟨k + 1, by omega, by go_num, HT⟩
          case measure => simp [intOf]; omega
      · obtain rfl : k = l.length := by omega
        have HRT : Hid (r = true) := by show _ = _; have := hall.out; rw [List.take_length] at this; rw [← HR.out, this]
        go_wp2_with fail
        go_ret
        exact ⟨⟨-1, rfl, by rw [HRT.out]; rfl⟩, rfl⟩
  clear hc hr
  have HCF : Hid (Calls Try.prog 154 #[.slice (some ⟨g, 0, none⟩) l.length l.length, .func (.func 155) #[] #[]] w fun e w' => e = .returned (.bool (!r)) ∧ w = w') := by
    show Calls _ _ _ _ _
    go_enter Try.func154, Try.ntmps154
    go_wp2_with fail
    refine HIX.out.mono ?_
    rintro e w' ⟨⟨i, rfl, hi⟩, rfl⟩
    have HI := hid hi
    clear hi
    go_wp2_with fail
    go_ret
    exact ⟨by rw [← HI.out]; rfl, rfl⟩
  go_enter Try.func101, Try.ntmps101
  go_wp2_with fail
  refine HCF.out.mono ?_
  rintro e w' ⟨rfl, rfl⟩
  go_wp2_with fail
  go_ret
  exact ⟨by simp, rfl⟩
theorem lit_in {p : Nat → Prop} (s : ByteArray) (ns : List ByteArray) (vn : Value) (q : Bool) (B : Nat) (w : World) (hc : w.cell? ⟨B, 0, none⟩ = some vn) (hr : RowsOf p sEnc 1 w vn ns) (hl : ns.length ≤ 1000000000000) (hq : isIn ns s = q) :
    Calls Try.prog 99 #[.string s, .pointer (some ⟨B, 0, none⟩)] w fun e w' => e = .returned (.bool q) ∧ w = w' := by
  have HCN := hid (C04.contains_any vn ns s q w hr hl hq)
  obtain ⟨a, cap, rfl⟩ := hr.form
  clear hr hq
  go_enter Try.func99, Try.ntmps99
  go_wp2_with fail
  refine HCN.out.mono ?_
  rintro e w' ⟨rfl, rfl⟩
  go_wp2_with fail
  go_ret
  exact ⟨rfl, rfl⟩
end C12
end Go.Proofs.Ytmmmaldpalhjeaa
namespace Go.Proofs.Ytmmmaldpalhjeaa
open Go.RowKit Go.Peri
namespace C12
theorem wp_gen {P : Program} {c : Code} {Q : Exit → Act → World → Prop} {a : Act} {w : World} (h : ∀ w2, w2 = w → c.wp P Q a w2) : c.wp P Q a w := h w rfl
set_option maxRecDepth 100000 in
set_option maxHeartbeats 2000000 in
theorem check_any (rank : Int) (pa : Option Addr) (pcap : Nat) (ps : List Prd) (target : ByteArray) (ap as_ dp dt mp : Int) (mirror : ByteArray) (sample : Int) (ns : List ByteArray) (vn : Value) (c : Int) (W : World)
    (hp : RowsOf (· < W.heap.size) Prd.enc 3 W (.slice pa ps.length pcap) ps) (hw : ∀ x ∈ ps, x.Wf) (hpl : ps.length ≤ 1000000000) (hn : RowsOf (· < W.heap.size) sEnc 1 W vn ns) (hl : ns.length ≤ 1000000000000) (hc : checkR rank ps target ap as_ dp dt mp mirror sample ns = c) :
    Calls Try.prog 45 #[.agg #[.int .i64 rank, .slice pa ps.length pcap, .string target, .int .i64 ap, .int .i64 as_, .int .i64 dp, .int .i64 dt, .int .i64 mp, .string mirror, .int .i64 sample], vn] W fun e w' => e = .returned (.int .i64 c) ∧ Below W.heap.size W w' := by
  obtain ⟨r0, h0⟩ : ∃ q, inB rank 0 99 = q := ⟨_, rfl⟩
  have HW := hid (fun w => within_any rank 0 99 r0 w h0)
  unfold checkR at hc
  rw [h0] at hc
  have HC := hid hc
  have HPS := hid hp
  have HWF := hid hw
  have HNS := hid hn
  obtain ⟨na, ncap, rfl⟩ := hn.form
  clear hc hp hw hn h0
  have hmf : ∀ (fn : Fn) (first cap : Array Value) (w : World), (Instr.makeFunc fn first cap).run Try.prog w = .ok (.func fn first cap) w := fun _ _ _ _ => rfl
  go_enter Try.func45, Try.ntmps45
  go_upto_region 1 with fail
  refine wp_gen ?_
  intro w1 hw1
  have hb1 : Below W.heap.size W w1 := by rw [hw1]; go_grown
  have hk1 : Blk w1 W.heap.size #[.int .i64 rank, .slice pa ps.length pcap, .string target, .int .i64 ap, .int .i64 as_, .int .i64 dp, .int .i64 dt, .int .i64 mp, .string mirror, .int .i64 sample] 60 := by rw [hw1]; exact (Blk.new _ _ _).alloc _
  have hn1 : Blk w1 (W.heap.size + 1) #[.slice na ns.length ncap] 28 := by rw [hw1]; exact Blk.new' _ _ _ (by simp)
  clear hw1
  have HB1 := hid hb1
  have HK1 := hid hk1
  have HN1 := hid hn1
  have c0 : w1.cell? ⟨W.heap.size, 0, none⟩ = some (.int .i64 rank) := hk1.cell 0
  have c1 : w1.cell? ⟨W.heap.size, 1, none⟩ = some (.slice pa ps.length pcap) := hk1.cell 1
  clear hb1 hk1 hn1
  go_wp2_with fail
  refine (HW.out _).mono ?_
  rintro e w' ⟨rfl, rfl⟩
  cases r0
  · go_wp2_with fail
    go_ret
    exact ⟨by rw [← HC.out]; rfl, HB1.out⟩
  by_cases h4 : 4 < ps.length
  · go_wp2_with fail
    go_ret
    exact ⟨by rw [← HC.out, if_neg (by simp), if_pos h4]; rfl, HB1.out⟩
  have h0 := HC.out
  rw [if_neg (by simp), if_neg h4] at h0
  obtain ⟨rest, hrest⟩ : ∃ q, (if isIn ns target = false then (7 : Int) else if mirror.size ≠ 0 ∧ isIn ns mirror = false then 7 else if ([ap, dp, mp, sample].all fun n => inB n 0 100) = false then 12 else if sizedB as_ 400 599 ap = false then 12 else if sizedB dt 1 50 dp = false then 12 else if 0 < mp ∧ mirror.size = 0 then 9 else 0) = q := ⟨_, rfl⟩
  rw [hrest] at h0
  have HC2 := hid h0
  have HRS := hid hrest
  clear h0 hrest HC HW
  go_wp2_with fail
  go_loopw [20] (fun i wr => ∃ k : Nat, k ≤ ps.length ∧ i = .int .i64 k ∧ Hid (bad (ps.drop k) = bad ps) ∧ Below w1.heap.size w1 wr) (fun i _ => ps.length - (intOf i).toNat)
  case atStart => exact ⟨0, Nat.zero_le _, rfl, hid rfl, Below.refl _ _⟩
  case round =>
    obtain ⟨k, hk, rfl, hbd, hb⟩ := hrel
    have HB := hid hb
    clear hb c0 c1
    by_cases hk2 : k < ps.length
    · obtain ⟨kd, nm, vl, hx⟩ : ∃ kd nm vl, ps[k] = ⟨kd, nm, vl⟩ := ⟨_, _, _, rfl⟩
      have hwf := HWF.out ps[k] (List.getElem_mem hk2)
      rw [hx] at hwf
      obtain ⟨e, he⟩ : ∃ e, C11.checkR kd nm vl = e := ⟨_, rfl⟩
      have HPC := hid (fun w => C11.pcheck_any kd nm vl e w (Nat.le_trans hwf.name (by decide)) (Nat.le_trans hwf.value (by decide)) he)
      have HBD : Hid (bad ps = if e = 0 then bad (ps.drop (k + 1)) else e) := by show _ = _; rw [← hbd.out, bad_drop ps k hk2, hx, he]
      have hrow := (HPS.out.below (HB1.out.trans (HB.out.mono HB1.out.size)) (fun _ h => h))
      obtain ⟨b, off, rfl, cc0, cc1, cc2⟩ : ∃ b off, pa = some ⟨b, off, none⟩ ∧ wr.cell? ⟨b, off + k * 3, none⟩ = some (.int .i64 kd) ∧ wr.cell? ⟨b, off + k * 3 + 1, none⟩ = some (.string nm) ∧ wr.cell? ⟨b, off + k * 3 + 2, none⟩ = some (.string vl) := by
        obtain ⟨a', cap', e', _, _, _, h5⟩ := hrow
        rcases h5 with h0 | ⟨b, off, h1, _, h3⟩
        · rw [h0] at hk2; simp at hk2
        · cases e'
          exact ⟨b, off, h1, h3 k hk2 0 _ (by rw [hx]; rfl), h3 k hk2 1 _ (by rw [hx]; rfl), h3 k hk2 2 _ (by rw [hx]; rfl)⟩
      clear he hwf hrow
      by_cases he0 : e = 0
      · subst he0
        have HBD2 : Hid (bad (ps.drop (k + 1)) = bad ps) := by show _ = _; rw [HBD.out]; simp
        clear HBD
        go_wp2_with fail
        refine (HPC.out _).mono ?_
        rintro e' w2 ⟨rfl, hb2⟩
        have HB2 := hid ((HB.out.alloc HB.out.size _).trans (hb2.mono (HB.out.alloc HB.out.size _).size))
        clear hb2
        go_wp2_with fail
        go_roundw
        case rel => exact ⟨k + 1, by omega, by go_num, HBD2, HB2.out⟩
        case measure => simp [intOf]; omega
      · have HCE : Hid (c = e) := by
          have hbe : bad ps = e := by rw [HBD.out, if_neg he0]
          show _ = _
          rw [← HC2.out, hbe, if_pos he0]
        have he1 : (e == 0) = false := by simpa using he0
        have he2 : (e != 0) = true := by simpa using he0
        clear HBD HC2
        go_wp2_with fail
        refine (HPC.out _).mono ?_
        rintro e' w2 ⟨rfl, hb2⟩
        have HB2 := hid ((HB.out.alloc HB.out.size _).trans (hb2.mono (HB.out.alloc HB.out.size _).size))
        clear hb2
        go_wp2_with fail
        go_ret
        exact ⟨by rw [HCE.out]; rfl, HB1.out.trans (HB2.out.mono HB1.out.size)⟩
    · obtain rfl : k = ps.length := by omega
      have hb0 : bad ps = 0 := by have := hbd.out; rw [List.drop_length] at this; exact this.symm
      have hcr := HC2.out
      rw [hb0, if_neg (by simp), ← HRS.out] at hcr
      have hk := HK1.out.below HB.out HK1.out.lt
      have c2 : wr.cell? ⟨W.heap.size, 2, none⟩ = some (.string target) := hk.cell 2
      have c3 : wr.cell? ⟨W.heap.size, 3, none⟩ = some (.int .i64 ap) := hk.cell 3
      have c4 : wr.cell? ⟨W.heap.size, 4, none⟩ = some (.int .i64 as_) := hk.cell 4
      have c5 : wr.cell? ⟨W.heap.size, 5, none⟩ = some (.int .i64 dp) := hk.cell 5
      have c6 : wr.cell? ⟨W.heap.size, 6, none⟩ = some (.int .i64 dt) := hk.cell 6
      have c7 : wr.cell? ⟨W.heap.size, 7, none⟩ = some (.int .i64 mp) := hk.cell 7
      have c8 : wr.cell? ⟨W.heap.size, 8, none⟩ = some (.string mirror) := hk.cell 8
      have c9 : wr.cell? ⟨W.heap.size, 9, none⟩ = some (.int .i64 sample) := hk.cell 9
      have hlt := hk.lt
      have hnn : wr.cell? ⟨W.heap.size + 1, 0, none⟩ = some (.slice na ns.length ncap) := (HN1.out.below HB.out HN1.out.lt).cell 0
      have HBR := hid (HB1.out.trans (HB.out.mono HB1.out.size))
      have HBA := hid (HBR.out.alloc HBR.out.size (.cells #[.int .i64 ap, .int .i64 dp, .int .i64 mp, .int .i64 sample] 3))
      have hrn := HNS.out.below HBR.out (fun _ h => h)
      obtain ⟨q1, hq1⟩ : ∃ q, isIn ns target = q := ⟨_, rfl⟩
      obtain ⟨q2, hq2⟩ : ∃ q, isIn ns mirror = q := ⟨_, rfl⟩
      have HI1 := hid (lit_in target ns _ q1 (W.heap.size + 1) wr hnn hrn hl hq1)
      have HI2 := hid (lit_in mirror ns _ q2 (W.heap.size + 1) wr hnn hrn hl hq2)
      obtain ⟨pt, hpt⟩ : ∃ q, [ap, dp, mp, sample].all (fun n => inB n 0 100) = q := ⟨_, rfl⟩
      obtain ⟨s1, hs1⟩ : ∃ q, sizedB as_ 400 599 ap = q := ⟨_, rfl⟩
      obtain ⟨s2, hs2⟩ : ∃ q, sizedB dt 1 50 dp = q := ⟨_, rfl⟩
      have HS1 := hid (fun w => sized_any as_ 400 599 ap s1 w hs1)
      have HS2 := hid (fun w => sized_any dt 1 50 dp s2 w hs2)
      have hbk : Blk (wr.alloc (.cells #[.int .i64 ap, .int .i64 dp, .int .i64 mp, .int .i64 sample] 3)) wr.heap.size #[.int .i64 ap, .int .i64 dp, .int .i64 mp, .int .i64 sample] 3 := Blk.new _ _ _
      have HPT := hid (parts_any wr.heap.size [ap, dp, mp, sample] pt _ (fun k hk => by
        rw [hbk.cell]
        match k, hk with
        | 0, _ => rfl
        | 1, _ => rfl
        | 2, _ => rfl
        | 3, _ => rfl) (by show 4 ≤ 1000; decide) hpt)
      rw [hq1, hq2, hpt, hs1, hs2] at hcr
      clear hq1 hq2 hpt hs1 hs2 hbk hk hb0 hbd HC2 HRS HPS HWF HNS HN1 hrn
      cases q1
      · have HCR : Hid (c = 7) := by show _ = _; rw [← hcr]; rfl
        clear hcr
        go_wp2_with fail
        refine HI1.out.mono ?_
        rintro e' w2 ⟨rfl, rfl⟩
        go_wp2_with fail
        go_ret
        exact ⟨by rw [HCR.out]; rfl, HBR.out⟩
      by_cases hm : mirror.size = 0
      · have HME : Hid (mirror.size = 0) := hid hm
        have HCR : Hid (c = if pt = false then 12 else if s1 = false then 12 else if s2 = false then 12 else if 0 < mp ∧ mirror.size = 0 then 9 else 0) := by show _ = _; rw [← hcr]; simp [hm]
        obtain rfl := C11.none_of mirror hm
        clear hcr hm
        go_wp2_with fail
        refine HI1.out.mono ?_
        rintro e' w2 ⟨rfl, rfl⟩
        go_wp2_with fail
        refine HPT.out.mono ?_
        rintro e' w2 ⟨rfl, rfl⟩
        cases pt
        · go_wp2_with fail
          go_ret
          exact ⟨by rw [HCR.out]; rfl, HBA.out⟩
        go_wp2_with fail
        refine (HS1.out _).mono ?_
        rintro e' w2 ⟨rfl, rfl⟩
        cases s1
        · go_wp2_with fail
          go_ret
          exact ⟨by rw [HCR.out]; rfl, HBA.out⟩
        go_wp2_with fail
        refine (HS2.out _).mono ?_
        rintro e' w2 ⟨rfl, rfl⟩
        cases s2
        · go_wp2_with fail
          go_ret
          exact ⟨by rw [HCR.out]; rfl, HBA.out⟩
        by_cases hmp : 0 < mp
        · go_wp2_with fail
          go_ret
          exact ⟨by rw [HCR.out]; simp [hmp, HME.out], HBA.out⟩
        · go_wp2_with fail
          go_ret
          exact ⟨by rw [HCR.out, if_neg (by simp), if_neg (by simp), if_neg (by simp), if_neg (fun h => absurd h.1 (by omega))]; rfl, HBA.out⟩
      · have HME : Hid (mirror.size ≠ 0) := hid hm
        obtain ⟨f1, f2, f3⟩ := C11.full_of mirror hm
        cases q2
        · have HCR : Hid (c = 7) := by show _ = _; rw [← hcr]; simp [hm]
          clear hcr hm
          go_wp2_with fail
          refine HI1.out.mono ?_
          rintro e' w2 ⟨rfl, rfl⟩
          go_wp2_with fail
          refine HI2.out.mono ?_
          rintro e' w2 ⟨rfl, rfl⟩
          go_wp2_with fail
          go_ret
          exact ⟨by rw [HCR.out]; rfl, HBR.out⟩
        · have HCR : Hid (c = if pt = false then 12 else if s1 = false then 12 else if s2 = false then 12 else if 0 < mp ∧ mirror.size = 0 then 9 else 0) := by show _ = _; rw [← hcr]; simp
          clear hcr hm
          go_wp2_with fail
          refine HI1.out.mono ?_
          rintro e' w2 ⟨rfl, rfl⟩
          go_wp2_with fail
          refine HI2.out.mono ?_
          rintro e' w2 ⟨rfl, rfl⟩
          go_wp2_with fail
          refine HPT.out.mono ?_
          rintro e' w2 ⟨rfl, rfl⟩
          cases pt
          · go_wp2_with fail
            go_ret
            exact ⟨by rw [HCR.out]; rfl, HBA.out⟩
          go_wp2_with fail
          refine (HS1.out _).mono ?_
          rintro e' w2 ⟨rfl, rfl⟩
          cases s1
          · go_wp2_with fail
            go_ret
            exact ⟨by rw [HCR.out]; rfl, HBA.out⟩
          go_wp2_with fail
          refine (HS2.out _).mono ?_
          rintro e' w2 ⟨rfl, rfl⟩
          cases s2
          · go_wp2_with fail
            go_ret
            exact ⟨by rw [HCR.out]; rfl, HBA.out⟩
          by_cases hmp : 0 < mp
          · go_wp2_with fail
            go_ret
            exact ⟨by rw [HCR.out, if_neg (by simp), if_neg (by simp), if_neg (by simp), if_neg (fun h => HME.out h.2)]; rfl, HBA.out⟩
          · go_wp2_with fail
            go_ret
            exact ⟨by rw [HCR.out, if_neg (by simp), if_neg (by simp), if_neg (by simp), if_neg (fun h => absurd h.1 (by omega))]; rfl, HBA.out⟩
end C12
end Go.Proofs.Ytmmmaldpalhjeaa
