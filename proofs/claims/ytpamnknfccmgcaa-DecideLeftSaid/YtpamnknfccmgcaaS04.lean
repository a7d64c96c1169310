/- Walks of layer 4 (head): lists alike; few headers; no condition. -/
import Derived.Test.YtpamnknfccmgcaaD04
namespace Go.Peri
namespace Hd
def fewB (h : Hd) : Bool := decide (h.name.size + h.value.size ≤ 400)
def few (l : List Hd) : Bool := decide (l.length ≤ 60) && l.all fewB
theorem few_len {l : List Hd} (h : few l = true) : l.length ≤ 60 := by
  unfold few at h
  rw [Bool.and_eq_true] at h
  exact of_decide_eq_true h.1
theorem few_mem {l : List Hd} (h : few l = true) : ∀ x ∈ l, x.name.size + x.value.size ≤ 400 := by
  unfold few at h
  rw [Bool.and_eq_true, List.all_eq_true] at h
  exact fun x hx => of_decide_eq_true (h.2 x hx)
end Hd
end Go.Peri
namespace Go.Proofs.Ytpamnknfccmgcaa
open Go.RowKit Go.Peri
namespace C04
theorem eqHd (a b : Hd) (w : World) : (Op.equalIn 10000 131 (.agg #[.string a.name, .string a.value]) (.agg #[.string b.name, .string b.value])).run Try.prog w = .ok (decide (a = b)) w := by
  rw [show (10000 : Nat) = 9999 + 1 from rfl, run_equalIn_struct w 9999 131 _ _ (by kernel_rfl) (by kernel_rfl)]
  simp only [Program.fieldsOf, Try.underlying131, Op.eqFields]
  go_simp
  have inj : ∀ x y : ByteArray, x.toList = y.toList → x = y := fun x y h => Go.WideShapes.bytes_inj (by rw [← ByteArray.toList_eq, ← ByteArray.toList_eq, h])
  by_cases h : a = b
  · subst h; simp
  · rw [decide_eq_false h]
    have ext : a.name.toList = b.name.toList → a.value.toList = b.value.toList → a = b := by
      intro h1 h2
      have h1 := inj _ _ h1
      have h2 := inj _ _ h2
      obtain ⟨⟩ := a
      obtain ⟨⟩ := b
      simp_all
    repeat' (split <;> try rfl)
    all_goals exact absurd (ext (by assumption) (by assumption)) h

set_option maxRecDepth 100000 in
theorem same_any {p q : Nat → Prop} (u v : Value) (l m : List Hd) (r : Bool) (W : World) (h : RowsOf p Hd.enc 2 W u l) (hp : ∀ b, p b → b < W.heap.size) (h2 : RowsOf q Hd.enc 2 W v m) (hq : ∀ b, q b → b < W.heap.size) (hl : l.length ≤ 1000000000000) (hm : m.length ≤ 1000000000000)
    (hr : decide (l = m) = r) :
    Calls Try.prog 40 #[u, v] W fun e w' => e = .returned (.bool r) ∧ Below W.heap.size W w' := by
  obtain ⟨a, cap, rfl, hlc, hcm, _, hcell⟩ := h
  obtain ⟨a2, cap2, rfl, hlc2, hcm2, _, hcell2⟩ := h2
  have HP := hid hp
  have HQ := hid hq
  have HC := hid hcell
  have HC2 := hid hcell2
  have HR := hid hr
  clear hp hq hcell hcell2 hr
  by_cases hlen : l.length = m.length
  · have HLEN := hid hlen
    have hle2 : ((l.length : Int) == (m.length : Int)) = true := by simp [hlen]
    have hle3 : ((m.length : Int) == (m.length : Int)) = true := by simp
    generalize hn : l.length = n at hlen hlc hl HLEN hle2
    have HN := hid hn
    clear hn
    subst hlen
    go_enter Try.func40, Try.ntmps40
    go_wp2_with fail
    go_loopw [5] (fun i wr => ∃ k : Nat, k ≤ m.length ∧ i = .int .i64 k ∧ Below W.heap.size W wr ∧ ∀ j (_ : j < k) (h1 : j < l.length) (h2 : j < m.length), l[j] = m[j]) (fun i _ => m.length - (intOf i).toNat)
    case atStart => exact ⟨0, Nat.zero_le _, rfl, Below.refl _ _, fun j hj => absurd hj (Nat.not_lt_zero _)⟩
    case round =>
      obtain ⟨k, hk, rfl, hb, hno⟩ := hrel
      have HB := hid hb
      have HE := hid hno
      clear hb hno
      by_cases hlt : k < m.length
      · have hlt1 : k < l.length := by rw [HN.out]; exact hlt
        obtain ⟨b, off, rfl, hpb, hc⟩ := HC.out.resolve_left (by intro e; rw [e] at hlt1; simp at hlt1)
        obtain ⟨b2, off2, rfl, hpb2, hc2⟩ := HC2.out.resolve_left (by intro e; rw [e] at hlt; simp at hlt)
        have hbl : b < wr.heap.size := Nat.lt_of_lt_of_le (HP.out b hpb) HB.out.size
        have hbl2 : b2 < wr.heap.size := Nat.lt_of_lt_of_le (HQ.out b2 hpb2) HB.out.size
        obtain ⟨c0, c1⟩ := Hd.cells (fun j u hu => (HB.out.cell (p := ⟨b, off + k * 2 + j, none⟩) (HP.out b hpb)).trans (hc k hlt1 j u hu))
        obtain ⟨d0, d1⟩ := Hd.cells (fun j u hu => (HB.out.cell (p := ⟨b2, off2 + k * 2 + j, none⟩) (HQ.out b2 hpb2)).trans (hc2 k hlt j u hu))
        have HNext : Hid (l[k] = m[k] → ∀ j (_ : j < k + 1) (h1 : j < l.length) (h2 : j < m.length), l[j] = m[j]) := by
          intro he j hj h1 h2
          by_cases e : j = k
          · subst e; exact he
          · exact HE.out j (by omega) h1 h2
        have HHit : Hid (l[k] ≠ m[k] → l ≠ m) := fun hh e => hh (by subst e; rfl)
        clear hc hc2
        generalize l[k] = x at c0 c1 HNext HHit
        generalize m[k] = y at d0 d1 HNext HHit
        have hee := eqHd x y
        by_cases hxy : x = y
        · have HX := hid hxy
          rw [decide_eq_true hxy] at hee
          clear hxy
          go_wp2_with fail
          refine wp_region_bw (by kernel_rfl) (by kernel_rfl) ?_
          repeat (go_big_quiet_step (fail))
          refine wpQuiet_nil ?_
          rintro w2 ⟨⟨_, hb2⟩, rfl⟩
          have HB2 : Hid (Below W.heap.size W w2) := HB.out.trans (hb2.mono HB.out.size)
          clear hb2
          go_wp2_with fail
          go_roundw
          case rel => exact ⟨k + 1, by omega, by go_num, HB2.out, HNext.out HX.out⟩
          case measure => simp [intOf]; omega
        · have HX := hid hxy
          rw [decide_eq_false hxy] at hee
          clear hxy
          go_wp2_with fail
          refine wp_region_bw (by kernel_rfl) (by kernel_rfl) ?_
          repeat (go_big_quiet_step (fail))
          refine wpQuiet_nil ?_
          rintro w2 ⟨⟨_, hb2⟩, rfl⟩
          have HB2 : Hid (Below W.heap.size W w2) := HB.out.trans (hb2.mono HB.out.size)
          clear hb2
          go_wp2_with fail
          go_ret
          exact ⟨by rw [← HR.out, decide_eq_false (HHit.out HX.out)]; rfl, HB2.out⟩
      · obtain rfl : k = m.length := by omega
        go_wp2_with fail
        go_ret
        have : l = m := List.ext_getElem HN.out (fun j h1 h2 => HE.out j h2 h1 h2)
        exact ⟨by rw [← HR.out, decide_eq_true this]; rfl, HB.out⟩
  · have HL : Hid (l ≠ m) := fun e => hlen (by rw [e])
    have hle2 : ((l.length : Int) == (m.length : Int)) = false := by rw [beq_eq_false_iff_ne]; omega
    clear hlen
    go_enter Try.func40, Try.ntmps40
    go_wp2_with fail
    go_ret
    exact ⟨by rw [← HR.out, decide_eq_false HL.out]; rfl, Below.refl _ _⟩

set_option maxRecDepth 100000 in
theorem texts_any {p q : Nat → Prop} (u v : Value) (l m : List ByteArray) (r : Bool) (W : World) (h : RowsOf p sEnc 1 W u l) (hp : ∀ b, p b → b < W.heap.size) (h2 : RowsOf q sEnc 1 W v m) (hq : ∀ b, q b → b < W.heap.size) (hl : l.length ≤ 1000000000000) (hm : m.length ≤ 1000000000000)
    (hr : decide (l = m) = r) :
    Calls Try.prog 37 #[u, v] W fun e w' => e = .returned (.bool r) ∧ Below W.heap.size W w' := by
  obtain ⟨a, cap, rfl, hlc, hcm, _, hcell⟩ := h
  obtain ⟨a2, cap2, rfl, hlc2, hcm2, _, hcell2⟩ := h2
  have HP := hid hp
  have HQ := hid hq
  have HC := hid hcell
  have HC2 := hid hcell2
  have HR := hid hr
  clear hp hq hcell hcell2 hr
  by_cases hlen : l.length = m.length
  · have HLEN := hid hlen
    have hle2 : ((l.length : Int) == (m.length : Int)) = true := by simp [hlen]
    have hle3 : ((m.length : Int) == (m.length : Int)) = true := by simp
    generalize hn : l.length = n at hlen hlc hl HLEN hle2
    have HN := hid hn
    clear hn
    subst hlen
    go_enter Try.func37, Try.ntmps37
    go_wp2_with fail
    go_loopw [5] (fun i wr => ∃ k : Nat, k ≤ m.length ∧ i = .int .i64 k ∧ Below W.heap.size W wr ∧ ∀ j (_ : j < k) (h1 : j < l.length) (h2 : j < m.length), l[j] = m[j]) (fun i _ => m.length - (intOf i).toNat)
    case atStart => exact ⟨0, Nat.zero_le _, rfl, Below.refl _ _, fun j hj => absurd hj (Nat.not_lt_zero _)⟩
    case round =>
      obtain ⟨k, hk, rfl, hb, hno⟩ := hrel
      have HB := hid hb
      have HE := hid hno
      clear hb hno
      by_cases hlt : k < m.length
      · have hlt1 : k < l.length := by rw [HN.out]; exact hlt
        obtain ⟨b, off, rfl, hpb, hc⟩ := HC.out.resolve_left (by intro e; rw [e] at hlt1; simp at hlt1)
        obtain ⟨b2, off2, rfl, hpb2, hc2⟩ := HC2.out.resolve_left (by intro e; rw [e] at hlt; simp at hlt)
        have hbl : b < wr.heap.size := Nat.lt_of_lt_of_le (HP.out b hpb) HB.out.size
        have hbl2 : b2 < wr.heap.size := Nat.lt_of_lt_of_le (HQ.out b2 hpb2) HB.out.size
        have c0 : wr.cell? ⟨b, off + k, none⟩ = some (.string l[k]) := (HB.out.cell (p := ⟨b, off + k, none⟩) (HP.out b hpb)).trans (by have := hc k hlt1 0 _ rfl; simpa using this)
        have d0 : wr.cell? ⟨b2, off2 + k, none⟩ = some (.string m[k]) := (HB.out.cell (p := ⟨b2, off2 + k, none⟩) (HQ.out b2 hpb2)).trans (by have := hc2 k hlt 0 _ rfl; simpa using this)
        have HNext : Hid (l[k] = m[k] → ∀ j (_ : j < k + 1) (h1 : j < l.length) (h2 : j < m.length), l[j] = m[j]) := by
          intro he j hj h1 h2
          by_cases e : j = k
          · subst e; exact he
          · exact HE.out j (by omega) h1 h2
        have HHit : Hid (l[k] ≠ m[k] → l ≠ m) := fun hh e => hh (by subst e; rfl)
        clear hc hc2
        generalize l[k] = x at c0 HNext HHit
        generalize m[k] = y at d0 HNext HHit
        have hk2 : (k : Int) < (m.length : Int) := by omega
        obtain ⟨bq, hbq⟩ : ∃ bq, decide (x = y) = bq := ⟨_, rfl⟩
        obtain ⟨s1, s2⟩ := strEq_of hbq
        have HX := hid hbq
        clear hbq
        cases bq
        · go_wp2_with fail
          go_quiet (fail)
          go_wp2_with fail
          go_ret
          exact ⟨by rw [← HR.out, decide_eq_false (HHit.out (of_decide_eq_false HX.out))]; rfl, HB.out.trans ⟨rfl, rfl, rfl, Nat.le_refl _, fun _ _ => rfl⟩⟩
        · go_wp2_with fail
          go_quiet (fail)
          go_wp2_with fail
          go_roundw
          case rel => exact ⟨k + 1, by omega, by go_num, HB.out.trans ⟨rfl, rfl, rfl, Nat.le_refl _, fun _ _ => rfl⟩, HNext.out (of_decide_eq_true HX.out)⟩
          case measure => simp [intOf]; omega
      · obtain rfl : k = m.length := by omega
        go_wp2_with fail
        go_ret
        have : l = m := List.ext_getElem HN.out (fun j h1 h2 => HE.out j h2 h1 h2)
        exact ⟨by rw [← HR.out, decide_eq_true this]; rfl, HB.out⟩
  · have HL : Hid (l ≠ m) := fun e => hlen (by rw [e])
    have hle2 : ((l.length : Int) == (m.length : Int)) = false := by rw [beq_eq_false_iff_ne]; omega
    clear hlen
    go_enter Try.func37, Try.ntmps37
    go_wp2_with fail
    go_ret
    exact ⟨by rw [← HR.out, decide_eq_false HL.out]; rfl, Below.refl _ _⟩

set_option maxRecDepth 100000 in
theorem few_any {p : Nat → Prop} (v : Value) (l : List Hd) (r : Bool) (W : World) (h : RowsOf p Hd.enc 2 W v l) (hp : ∀ b, p b → b < W.heap.size) (hw : ∀ x ∈ l, x.Wf) (hl : l.length ≤ 1000000000000000) (hr : Hd.few l = r) :
    Calls Try.prog 27 #[v] W fun e w' => e = .returned (.bool r) ∧ Below W.heap.size W w' := by
  obtain ⟨a, cap, rfl, hlc, hcm, _, hcell⟩ := h
  have HC := hid hcell
  have HP := hid hp
  have HWF := hid hw
  have HR := hid hr
  clear hcell hp hw hr
  by_cases h60 : 60 < l.length
  · have hd : Hid (Hd.few l = false) := hid (by unfold Hd.few; rw [decide_eq_false (by omega)]; rfl)
    go_enter Try.func27, Try.ntmps27
    go_wp2_with fail
    go_ret
    exact ⟨by rw [← HR.out, hd.out]; rfl, Below.refl _ _⟩
  go_enter Try.func27, Try.ntmps27
  go_wp2_with fail
  go_loopw [3] (fun i wr => ∃ k : Nat, k ≤ l.length ∧ i = .int .i64 k ∧ Below W.heap.size W wr ∧ ∀ j (_ : j < k) (h1 : j < l.length), Hd.fewB l[j] = true) (fun i _ => l.length - (intOf i).toNat)
  case atStart => exact ⟨0, Nat.zero_le _, rfl, Below.refl _ _, fun j hj => absurd hj (Nat.not_lt_zero _)⟩
  case round =>
    obtain ⟨k, hk, rfl, hb, hno⟩ := hrel
    have HB := hid hb
    have HN := hid hno
    clear hb hno
    by_cases hlt : k < l.length
    · obtain ⟨b, off, rfl, hpb, hc⟩ := HC.out.resolve_left (by intro e; rw [e] at hlt; simp at hlt)
      have hbl := HP.out b hpb
      obtain ⟨c0, c1⟩ := Hd.cells (fun j u hu => (HB.out.cell (p := ⟨b, off + k * 2 + j, none⟩) hbl).trans (hc k hlt j u hu))
      have HNext : Hid (Hd.fewB l[k] = true → ∀ j (_ : j < k + 1) (h1 : j < l.length), Hd.fewB l[j] = true) := by
        intro he j hj h1
        by_cases e : j = k
        · subst e; exact he
        · exact HN.out j (by omega) h1
      have HHit : Hid (Hd.fewB l[k] = false → Hd.few l = false) := fun h1 => by
        unfold Hd.few
        rw [Bool.and_eq_false_iff]
        right
        rw [List.all_eq_false]
        exact ⟨l[k], List.getElem_mem hlt, by simpa using h1⟩
      have hwy := HWF.out l[k] (List.getElem_mem hlt)
      clear hc
      generalize l[k] = y at c0 c1 HNext HHit hwy
      have hy1 := hwy.name
      have hy2 := hwy.value
      have hk1 : (k : Int) < (l.length : Int) := by omega
      have HF : Hid (Hd.fewB y = decide (y.name.size + y.value.size ≤ 400)) := hid rfl
      obtain ⟨n1, hn1⟩ : ∃ n, n = y.name.size := ⟨_, rfl⟩
      obtain ⟨n2, hn2⟩ : ∃ n, n = y.value.size := ⟨_, rfl⟩
      rw [← hn1] at hy1 HF
      rw [← hn2] at hy2 HF
      by_cases hs : n1 + n2 ≤ 400
      · have HV := hid (HNext.out (by rw [HF.out]; exact decide_eq_true hs))
        have hwr : IntKind.i64.wrap ((n1 : Int) + (n2 : Int)) = (n1 : Int) + (n2 : Int) := IntWalk.i64_in _ (by omega)
        have hle : ¬ (400 : Int) < (n1 : Int) + (n2 : Int) := by omega
        rw [hn1, hn2] at hwr hle
        clear hwy HHit HNext hn1 hn2
        go_wp2_with fail
        go_quiet (fail)
        go_wp2_with fail
        go_roundw
        case rel => exact ⟨k + 1, by omega, by go_num, HB.out.trans ⟨rfl, rfl, rfl, Nat.le_refl _, fun _ _ => rfl⟩, HV.out⟩
        case measure => simp [intOf]; omega
      · have HV := hid (HHit.out (by rw [HF.out]; exact decide_eq_false hs))
        have hwr : IntKind.i64.wrap ((n1 : Int) + (n2 : Int)) = (n1 : Int) + (n2 : Int) := IntWalk.i64_in _ (by omega)
        have hle : (400 : Int) < (n1 : Int) + (n2 : Int) := by omega
        rw [hn1, hn2] at hwr hle
        clear hwy HHit HNext hn1 hn2
        go_wp2_with fail
        go_quiet (fail)
        go_wp2_with fail
        go_ret
        exact ⟨by rw [← HR.out, HV.out]; rfl, HB.out.trans ⟨rfl, rfl, rfl, Nat.le_refl _, fun _ _ => rfl⟩⟩
    · obtain rfl : k = l.length := by omega
      have hd : Hid (Hd.few l = true) := hid (by
        unfold Hd.few
        rw [decide_eq_true (by omega), Bool.true_and, List.all_eq_true]
        intro x hx
        obtain ⟨i, hi, rfl⟩ := List.getElem_of_mem hx
        exact HN.out i hi hi)
      go_wp2_with fail
      go_ret
      exact ⟨by rw [← HR.out, hd.out]; rfl, HB.out⟩
end C04
end Go.Proofs.Ytpamnknfccmgcaa
