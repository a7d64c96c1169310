/- Walks of layers 5 and 11: few predicates; a request that is short; no condition. -/
import Derived.Test.YthmopkaecbebpaaV04
import Derived.Test.YthmopkaecbebpaaPd
namespace Go.Proofs.Ythmopkaecbebpaa
open Go.RowKit Go.Peri
namespace C11
set_option maxRecDepth 100000 in
theorem few_any {p : Nat → Prop} (v : Value) (l : List Prd) (r : Bool) (W : World) (h : RowsOf p Prd.enc 3 W v l) (hp : ∀ b, p b → b < W.heap.size) (hw : ∀ x ∈ l, x.Wf) (hl : l.length ≤ 1000000000000000) (hr : Prd.few l = r) :
    Calls Try.prog 132 #[v] W fun e w' => e = .returned (.bool r) ∧ Below W.heap.size W w' := by
  obtain ⟨a, cap, rfl, hlc, hcm, _, hcell⟩ := h
  have HC := hid hcell
  have HP := hid hp
  have HWF := hid hw
  have HR := hid hr
  clear hcell hp hw hr
  by_cases h60 : 20 < l.length
  · have hd : Hid (Prd.few l = false) := hid (by unfold Prd.few; rw [decide_eq_false (by omega)]; rfl)
    go_enter Try.func132, Try.ntmps132
    go_wp2_with fail
    go_ret
    exact ⟨by rw [← HR.out, hd.out]; rfl, Below.refl _ _⟩
  go_enter Try.func132, Try.ntmps132
  go_wp2_with fail
  go_loopw [3] (fun i wr => ∃ k : Nat, k ≤ l.length ∧ i = .int .i64 k ∧ Below W.heap.size W wr ∧ ∀ j (_ : j < k) (h1 : j < l.length), Prd.fewB l[j] = true) (fun i _ => l.length - (intOf i).toNat)
  case atStart => exact ⟨0, Nat.zero_le _, rfl, Below.refl _ _, fun j hj => absurd hj (Nat.not_lt_zero _)⟩
  case round =>
    obtain ⟨k, hk, rfl, hb, hno⟩ := hrel
    have HB := hid hb
    have HN := hid hno
    clear hb hno
    by_cases hlt : k < l.length
    · obtain ⟨b, off, rfl, hpb, hc⟩ := HC.out.resolve_left (by intro e; rw [e] at hlt; simp at hlt)
      have hbl := HP.out b hpb
      have hcc := Prd.cells (fun j u hu => (HB.out.cell (p := ⟨b, off + k * 3 + j, none⟩) hbl).trans (hc k hlt j u hu))
      have HNext : Hid (Prd.fewB l[k] = true → ∀ j (_ : j < k + 1) (h1 : j < l.length), Prd.fewB l[j] = true) := by
        intro he j hj h1
        by_cases e : j = k
        · subst e; exact he
        · exact HN.out j (by omega) h1
      have HHit : Hid (Prd.fewB l[k] = false → Prd.few l = false) := fun h1 => by
        unfold Prd.few
        rw [Bool.and_eq_false_iff]
        right
        rw [List.all_eq_false]
        exact ⟨l[k], List.getElem_mem hlt, by rw [Bool.not_eq_true]; exact h1⟩
      have hwy := HWF.out l[k] (List.getElem_mem hlt)
      clear hc
      generalize l[k] = y at hcc HNext HHit hwy
      have hy1 := hwy.name
      have hy2 := hwy.value
      have hk1 : (k : Int) < (l.length : Int) := by omega
      have HF : Hid (Prd.fewB y = decide (y.name.size + y.value.size ≤ 400)) := hid rfl
      obtain ⟨n1, hn1⟩ : ∃ n, n = y.name.size := ⟨_, rfl⟩
      obtain ⟨n2, hn2⟩ : ∃ n, n = y.value.size := ⟨_, rfl⟩
      rw [← hn1] at hy1 HF
      rw [← hn2] at hy2 HF
      by_cases hs : n1 + n2 ≤ 400
      · have HV := hid (HNext.out (by rw [HF.out]; exact decide_eq_true hs))
        have hwr : IntKind.i64.wrap ((n1 : Int) + (n2 : Int)) = (n1 : Int) + (n2 : Int) := IntWalk.i64_in _ (by omega)
        have hle : ¬ (400 : Int) < (n1 : Int) + (n2 : Int) := by omega
        rw [hn1, hn2] at hwr hle
        clear hwy HHit HNext hn1 hn2
        obtain ⟨c0, c1, c2⟩ := hcc
        go_wp2_with fail
        go_quiet (fail)
        go_wp2_with fail
        go_roundw
        case rel => exact ⟨k + 1, by omega, by go_num, HB.out.trans ⟨rfl, rfl, rfl, Nat.le_refl _, fun _ _ => rfl⟩, HV.out⟩
        case measure => simp [intOf]; omega
      · have HV := hid (HHit.out (by rw [HF.out]; exact decide_eq_false hs))
        have hwr : IntKind.i64.wrap ((n1 : Int) + (n2 : Int)) = (n1 : Int) + (n2 : Int) := IntWalk.i64_in _ (by omega)
        have hle : (400 : Int) < (n1 : Int) + (n2 : Int) := by omega
        rw [hn1, hn2] at hwr hle
        clear hwy HHit HNext hn1 hn2
        obtain ⟨c0, c1, c2⟩ := hcc
        go_wp2_with fail
        go_quiet (fail)
        go_wp2_with fail
        go_ret
        exact ⟨by rw [← HR.out, HV.out]; rfl, HB.out.trans ⟨rfl, rfl, rfl, Nat.le_refl _, fun _ _ => rfl⟩⟩
    · obtain rfl : k = l.length := by omega
      have hd : Hid (Prd.few l = true) := hid (by
        unfold Prd.few
        rw [decide_eq_true (by omega), Bool.true_and, List.all_eq_true]
        intro x hx
        obtain ⟨i, hi, rfl⟩ := List.getElem_of_mem hx
        exact HN.out i hi hi)
      go_wp2_with fail
      go_ret
      exact ⟨by rw [← HR.out, hd.out]; rfl, HB.out⟩
def fewH (h : Hd) : Bool := decide (h.name.size + h.value.size ≤ 400)
def short (m h q b : ByteArray) (l : List Hd) : Bool := decide (m.size + h.size + q.size + b.size ≤ 2000) && Hd.few40 l
theorem short_len {m h q b : ByteArray} {l : List Hd} (hr : short m h q b l = true) : m.size + h.size + q.size + b.size ≤ 2000 ∧ l.length ≤ 40 := by
  unfold short Hd.few40 at hr
  rw [Bool.and_eq_true, Bool.and_eq_true] at hr
  exact ⟨of_decide_eq_true hr.1, of_decide_eq_true hr.2.1⟩
set_option maxRecDepth 100000 in
set_option maxHeartbeats 1000000 in
theorem short_any {p : Nat → Prop} (m h q b : ByteArray) (l : List Hd) (a : Option Addr) (cap : Nat) (r : Bool) (W : World) (hrow : RowsOf p Hd.enc 2 W (.slice a l.length cap) l) (hp : ∀ b, p b → b < W.heap.size) (hw : ∀ x ∈ l, x.Wf) (hl : l.length ≤ 1000000000000000)
    (hm : m.size ≤ 140737488351232) (hh : h.size ≤ 140737488351232) (hq : q.size ≤ 140737488351232) (hbs : b.size ≤ 140737488351232) (hr : short m h q b l = r) :
    Calls Try.prog 66 #[.agg #[.string m, .string h, .string q, .slice a l.length cap, .string b]] W fun e w' => e = .returned (.bool r) ∧ Below W.heap.size W w' := by
  obtain ⟨a', cap', e9, hlc, hcm, _, hcell⟩ := hrow
  cases e9
  have HC := hid hcell
  have HP := hid hp
  have HWF := hid hw
  have HZ := hid (Blk.new W #[.string m, .string h, .string q, .slice a l.length cap, .string b] 113)
  have HB0 : Hid (Below W.heap.size W (W.alloc (.cells #[.string m, .string h, .string q, .slice a l.length cap, .string b] 113))) := by show Below _ _ _; go_grown
  unfold short at hr
  clear hcell hp hw
  by_cases h2 : m.size + h.size + q.size + b.size ≤ 2000
  · have g1 : ¬ (2000 : Int) < (m.size : Int) + (h.size : Int) + (q.size : Int) + (b.size : Int) := by omega
    rw [decide_eq_true h2, Bool.true_and] at hr
    have HR := hid hr
    clear h2 hr
    by_cases h40 : 40 < l.length
    · have hd : Hid (Hd.few40 l = false) := hid (by unfold Hd.few40; rw [decide_eq_false (by omega)]; rfl)
      have g2 : (40 : Int) < (l.length : Int) := by omega
      go_enter Try.func66, Try.ntmps66
      go_wp2_with fail
      go_ret
      exact ⟨by rw [← HR.out, hd.out]; rfl, HB0.out⟩
    have g2 : ¬ (40 : Int) < (l.length : Int) := by omega
    have HR1 := HR
    clear HR
    have HR : Hid (Hd.few40 l = r) := HR1
    go_enter Try.func66, Try.ntmps66
    go_wp2_with fail
    go_loopw [3] (fun i wr => ∃ k : Nat, k ≤ l.length ∧ i = .int .i64 k ∧ Below (W.alloc (.cells #[.string m, .string h, .string q, .slice a l.length cap, .string b] 113)).heap.size (W.alloc (.cells #[.string m, .string h, .string q, .slice a l.length cap, .string b] 113)) wr ∧ ∀ j (_ : j < k) (h1 : j < l.length), fewH l[j] = true) (fun i _ => l.length - (intOf i).toNat)
    case atStart => exact ⟨0, Nat.zero_le _, rfl, Below.refl _ _, fun j hj => absurd hj (Nat.not_lt_zero _)⟩
    case round =>
      obtain ⟨k, hk, rfl, hb, hno⟩ := hrel
      have HQ : Hid (Below (W.alloc (.cells #[.string m, .string h, .string q, .slice a l.length cap, .string b] 113)).heap.size (W.alloc (.cells #[.string m, .string h, .string q, .slice a l.length cap, .string b] 113)) wr) := hid hb
      have hz := HZ.out.later hb
      have q3 : wr.cell? ⟨W.heap.size, 3, none⟩ = some (.slice a l.length cap) := hz.cell 3
      have hlt0 := hz.lt
      replace hb : Below W.heap.size W wr := HB0.out.trans (hb.mono HB0.out.size)
      clear hz
      have HB := hid hb
      have HN := hid hno
      clear hb hno
      by_cases hlt : k < l.length
      · obtain ⟨b, off, rfl, hpb, hc⟩ := HC.out.resolve_left (by intro e; rw [e] at hlt; simp at hlt)
        have hbl := HP.out b hpb
        have hcc := Hd.cells (fun j u hu => (HB.out.cell (p := ⟨b, off + k * 2 + j, none⟩) hbl).trans (hc k hlt j u hu))
        have HNext : Hid (fewH l[k] = true → ∀ j (_ : j < k + 1) (h1 : j < l.length), fewH l[j] = true) := by
          intro he j hj h1
          by_cases e : j = k
          · subst e; exact he
          · exact HN.out j (by omega) h1
        have HHit : Hid (fewH l[k] = false → Hd.few40 l = false) := fun h1 => by
          unfold Hd.few40
          rw [Bool.and_eq_false_iff]
          right
          rw [List.all_eq_false]
          exact ⟨l[k], List.getElem_mem hlt, by rw [Bool.not_eq_true]; exact h1⟩
        have hwy := HWF.out l[k] (List.getElem_mem hlt)
        clear hc
        generalize l[k] = y at hcc HNext HHit hwy
        have hy1 := hwy.name
        have hy2 := hwy.value
        have hk1 : (k : Int) < (l.length : Int) := by omega
        have HF : Hid (fewH y = decide (y.name.size + y.value.size ≤ 400)) := hid rfl
        obtain ⟨n1, hn1⟩ : ∃ n, n = y.name.size := ⟨_, rfl⟩
        obtain ⟨n2, hn2⟩ : ∃ n, n = y.value.size := ⟨_, rfl⟩
        rw [← hn1] at hy1 HF
        rw [← hn2] at hy2 HF
        by_cases hs : n1 + n2 ≤ 400
        · have HV := hid (HNext.out (by rw [HF.out]; exact decide_eq_true hs))
          have hwr : IntKind.i64.wrap ((n1 : Int) + (n2 : Int)) = (n1 : Int) + (n2 : Int) := IntWalk.i64_in _ (by omega)
          have hle : ¬ (400 : Int) < (n1 : Int) + (n2 : Int) := by omega
          rw [hn1, hn2] at hwr hle
          clear hwy HHit HNext hn1 hn2
          obtain ⟨c0, c1⟩ := hcc
          go_wp2_with fail
          go_quiet (fail)
          go_wp2_with fail
          go_roundw
          case rel => exact ⟨k + 1, by omega, by go_num, HQ.out.trans ⟨rfl, rfl, rfl, Nat.le_refl _, fun _ _ => rfl⟩, HV.out⟩
          case measure => simp [intOf]; omega
        · have HV := hid (HHit.out (by rw [HF.out]; exact decide_eq_false hs))
          have hwr : IntKind.i64.wrap ((n1 : Int) + (n2 : Int)) = (n1 : Int) + (n2 : Int) := IntWalk.i64_in _ (by omega)
          have hle : (400 : Int) < (n1 : Int) + (n2 : Int) := by omega
          rw [hn1, hn2] at hwr hle
          clear hwy HHit HNext hn1 hn2
          obtain ⟨c0, c1⟩ := hcc
          go_wp2_with fail
          go_quiet (fail)
          go_wp2_with fail
          go_ret
          exact ⟨by rw [← HR.out, HV.out]; rfl, HB.out.trans ⟨rfl, rfl, rfl, Nat.le_refl _, fun _ _ => rfl⟩⟩
      · obtain rfl : k = l.length := by omega
        have hd : Hid (Hd.few40 l = true) := hid (by
          unfold Hd.few40
          rw [decide_eq_true (by omega), Bool.true_and, List.all_eq_true]
          intro x hx
          obtain ⟨i, hi, rfl⟩ := List.getElem_of_mem hx
          exact HN.out i hi hi)
        go_wp2_with fail
        go_ret
        exact ⟨by rw [← HR.out, hd.out]; rfl, HB.out⟩
  · have g1 : (2000 : Int) < (m.size : Int) + (h.size : Int) + (q.size : Int) + (b.size : Int) := by omega
    rw [decide_eq_false h2, Bool.false_and] at hr
    subst hr
    clear h2
    go_enter Try.func66, Try.ntmps66
    go_wp2_with fail
    go_ret
    exact ⟨rfl, HB0.out⟩
end C11
end Go.Proofs.Ythmopkaecbebpaa
