/- Walks of layer 35 (graph): whether services are few; no condition. -/
import Derived.Test.YtahakgmfkplidaaS35
namespace Go.Peri
def Hn.fewB (h : Hn) : Bool := decide (h.path.size ≤ 200) && Opr.few h.ops
def Sv.fewB (s : Sv) : Bool := decide (s.name.size ≤ 200) && (decide (s.hs.length ≤ 20) && s.hs.all Hn.fewB)
def Sv.few (l : List Sv) : Bool := decide (l.length ≤ 20) && l.all Sv.fewB
end Go.Peri
namespace Go.Proofs.Ytahakgmfkplidaa
open Go.RowKit Go.Peri
namespace C35
theorem few_not {l : List Sv} {i : Nat} (hi : i < l.length) (h : Sv.fewB l[i] = false) : Sv.few l = false := by
  unfold Sv.few
  rw [Bool.and_eq_false_iff]
  right
  rw [List.all_eq_false]
  exact ⟨l[i], List.getElem_mem hi, by simpa using h⟩
theorem fewS_not {s : Sv} {i : Nat} (hi : i < s.hs.length) (h : Hn.fewB s.hs[i] = false) : Sv.fewB s = false := by
  unfold Sv.fewB
  have : s.hs.all Hn.fewB = false := by
    rw [List.all_eq_false]
    exact ⟨s.hs[i], List.getElem_mem hi, by simpa using h⟩
  rw [this]; simp
theorem fewS_yes {s : Sv} (h1 : s.name.size ≤ 200) (h2 : s.hs.length ≤ 20) (h : ∀ i (_ : i < s.hs.length), Hn.fewB s.hs[i]! = true) : Sv.fewB s = true := by
  unfold Sv.fewB
  rw [decide_eq_true h1, decide_eq_true h2, Bool.true_and, Bool.true_and, List.all_eq_true]
  intro x hx
  obtain ⟨i, hi, rfl⟩ := List.getElem_of_mem hx
  have := h i hi
  rwa [getElem!_pos s.hs i hi] at this
theorem few_yes {l : List Sv} (h2 : l.length ≤ 20) (h : ∀ i (_ : i < l.length), Sv.fewB l[i]! = true) : Sv.few l = true := by
  unfold Sv.few
  rw [decide_eq_true h2, Bool.true_and, List.all_eq_true]
  intro x hx
  obtain ⟨i, hi, rfl⟩ := List.getElem_of_mem hx
  have := h i hi
  rwa [getElem!_pos l i hi] at this
set_option maxRecDepth 100000 in
set_option maxHeartbeats 8000000 in
theorem gfew_any {p : Nat → Prop} (v : Value) (l : List Sv) (r : Bool) (W : World) (h : RowsOf p Sv.enc 2 W v l) (hp : ∀ b, p b → b < W.heap.size) (hl : l.length ≤ 10000000000000) (hk : ∀ x ∈ l, SOk p W x) (hr : Sv.few l = r) :
    Calls Try.prog 6 #[v] W fun e w' => e = .returned (.bool r) ∧ Below W.heap.size W w' := by
  obtain ⟨a, cap, rfl, hlc, hcm, _, hcell⟩ := h
  have HC := hid hcell
  have HP := hid hp
  have HK := hid hk
  have HR := hid hr
  clear hcell hp hk hr
  by_cases h20 : 20 < l.length
  · have hz : Hid (r = false) := hid (by rw [← HR.out]; unfold Sv.few; rw [decide_eq_false (by omega)]; rfl)
    go_enter Try.func6, Try.ntmps6
    go_wp2_with fail
    go_ret
    exact ⟨by rw [hz.out]; rfl, Below.refl _ _⟩
  go_enter Try.func6, Try.ntmps6
  go_wp2_with fail
  go_loopw [3] (fun i wr => ∃ k : Nat, k ≤ l.length ∧ i = .int .i64 k ∧ Hid (Below W.heap.size W wr) ∧ Hid (∀ j (_ : j < k), Sv.fewB l[j]! = true)) (fun i _ => l.length - (intOf i).toNat)
  case atStart => exact ⟨0, Nat.zero_le _, rfl, hid (Below.refl _ _), hid (fun j hj => absurd hj (Nat.not_lt_zero _))⟩
  case round =>
    obtain ⟨i, hi, rfl, HB, HN⟩ := hrel
    obtain ⟨wo, rfl⟩ : ∃ wo : World, wo = wr := ⟨_, rfl⟩
    by_cases hlt : i < l.length
    · obtain ⟨b, off, rfl, hpb, hc⟩ := HC.out.resolve_left (by intro e; rw [e] at hlt; simp at hlt)
      have hbl := HP.out b hpb
      have hws := HB.out.size
      have HCL : Hid (∀ w', Below wo.heap.size wo w' → w'.cell? ⟨b, off + i * 2, none⟩ = some (.string l[i].name) ∧ w'.cell? ⟨b, off + i * 2 + 1, none⟩ = some (.slice l[i].pa l[i].hs.length l[i].pcap)) := hid (fun w' hw' =>
        Sv.cells (w := w') (b := b) (o := off + i * 2) (fun n u hu => ((HB.out.trans (hw'.mono hws)).cell (p := ⟨b, off + i * 2 + n, none⟩) hbl).trans (hc i hlt n u hu)))
      have hki := HK.out l[i] (List.getElem_mem hlt)
      have HNo : Hid (Sv.fewB l[i] = false → r = false) := hid (fun h => by rw [← HR.out]; exact few_not hlt h)
      have HYes : Hid (Sv.fewB l[i] = true → ∀ j (_ : j < i + 1), Sv.fewB l[j]! = true) := hid (fun h j hj => by
        by_cases e : j = i
        · subst e; rw [getElem!_pos l j hlt]; exact h
        · exact HN.out j (by omega))
      have HKI : Hid (SOk p W l[i]) := hid hki
      clear hc hki
      generalize l[i] = y at HCL HNo HYes HKI
      obtain ⟨name, pa, pcap, hs⟩ := y
      dsimp only at HCL
      have hnm : name.size ≤ 1000000000000000 := HKI.out.name
      have hhl : hs.length ≤ 10000000000000 := HKI.out.len
      obtain ⟨x0, x1⟩ := HCL.out wo (Below.refl _ _)
      have hbo : b < wo.heap.size := by omega
      have i1 : (0 : Int) ≤ (i : Int) := by omega
      have i2 : (i : Int) < (l.length : Int) := by omega
      by_cases hn2 : 200 < name.size
      · have hz : Hid (r = false) := hid (HNo.out (by unfold Sv.fewB; rw [decide_eq_false (by show ¬ name.size ≤ 200; omega)]; rfl))
        go_wp2_with fail
        go_ret
        exact ⟨by rw [hz.out]; rfl, HB.out⟩
      by_cases hh2 : 20 < hs.length
      · have hz : Hid (r = false) := hid (HNo.out (by unfold Sv.fewB; rw [decide_eq_false (show ¬ hs.length ≤ 20 by omega)]; simp))
        go_wp2_with fail
        go_ret
        exact ⟨by rw [hz.out]; rfl, HB.out⟩
      have HYes2 : Hid ((∀ j (_ : j < hs.length), Hn.fewB hs[j]! = true) → ∀ j (_ : j < i + 1), Sv.fewB l[j]! = true) := hid (fun h => HYes.out (fewS_yes (by show name.size ≤ 200; omega) (by show hs.length ≤ 20; omega) h))
      have HNo2 : Hid (∀ j (hj : j < hs.length), Hn.fewB hs[j] = false → r = false) := hid (fun j hj h => HNo.out (fewS_not (s := ⟨name, pa, pcap, hs⟩) hj h))
      clear HYes HNo
      go_wp2_with fail
      go_loopw [4] (fun k w' => ∃ j : Nat, j ≤ hs.length ∧ k = .int .i64 j ∧ Hid (Below wo.heap.size wo w') ∧ Hid (∀ m (_ : m < j), Hn.fewB hs[m]! = true)) (fun k _ => hs.length - (intOf k).toNat)
      case atStart => exact ⟨0, Nat.zero_le _, rfl, hid (Below.refl _ _), hid (fun m hm => absurd hm (Nat.not_lt_zero _))⟩
      case round =>
        obtain ⟨j, hj, rfl, HB1, HM⟩ := hrel
        have hbr : b < wr.heap.size := Nat.lt_of_lt_of_le hbo HB1.out.size
        obtain ⟨d0, d1⟩ := HCL.out wr HB1.out
        have HBR := hid (HB.out.trans (HB1.out.mono hws))
        clear x0 x1
        by_cases hjl : j < hs.length
        · obtain ⟨a2, cap2, e2, hlc2, hcm2, _, hcell2⟩ := HKI.out.rows
          cases e2
          obtain ⟨b2, off2, e3, hpb2, hc2⟩ := hcell2.resolve_left (by intro e; dsimp only at e; rw [e] at hjl; simp at hjl)
          subst e3
          have hbl2 := HP.out b2 hpb2
          obtain ⟨z0, z1⟩ := Hn.cells (w := wr) (b := b2) (o := off2 + j * 2) (fun n u hu => (HBR.out.cell (p := ⟨b2, off2 + j * 2 + n, none⟩) hbl2).trans (hc2 j hjl n u hu))
          have hkj := HKI.out.hs hs[j] (List.getElem_mem hjl)
          have HNo3 := hid (HNo2.out j hjl)
          have HM2 : Hid (Hn.fewB hs[j] = true → ∀ m (_ : m < j + 1), Hn.fewB hs[m]! = true) := hid (fun h m hm => by
            by_cases e : m = j
            · subst e; rw [getElem!_pos hs m hjl]; exact h
            · exact HM.out m (by omega))
          have hbr2 : b2 < wr.heap.size := by have := HBR.out.size; omega
          have j1 : (0 : Int) ≤ (j : Int) := by omega
          have j2 : (j : Int) < (hs.length : Int) := by omega
          have HKJ := hid hkj
          clear hc2 hcell2 hkj
          generalize hs[j] = x at z0 z1 HNo3 HM2 HKJ
          obtain ⟨path, qa, qcap, ops⟩ := x
          dsimp only at z0 z1
          have hpz : path.size ≤ 1000000000000000 := HKJ.out.path
          obtain ⟨fo, hfo⟩ : ∃ q, Opr.few ops = q := ⟨_, rfl⟩
          have XO := hid (ofew_any (p := p) (.slice qa ops.length qcap) ops fo wr (RowsOf.below HKJ.out.rows HBR.out HP.out) (fun b hb => by have := HP.out b hb; have := HBR.out.size; omega) HKJ.out.ops (by have := HKJ.out.len; dsimp only at this; omega) hfo)
          have HFE : Hid (Hn.fewB ⟨path, qa, qcap, ops⟩ = (decide (path.size ≤ 200) && fo)) := hid (by rw [← hfo]; rfl)
          rw [HFE.out] at HNo3 HM2
          clear hfo HFE
          by_cases hp2 : 200 < path.size
          · have hz : Hid (r = false) := hid (HNo3.out (by rw [decide_eq_false (by omega)]; rfl))
            go_wp2_with fail
            go_ret
            exact ⟨by rw [hz.out]; rfl, HBR.out⟩
          · rw [decide_eq_true (show path.size ≤ 200 by omega), Bool.true_and] at HNo3 HM2
            go_wp2_with fail
            refine XO.out.mono ?_
            rintro e w5 ⟨rfl, hb5⟩
            have HB5 := hid (HB1.out.trans (hb5.mono HB1.out.size))
            have HBZ := hid (HB.out.trans (HB5.out.mono hws))
            clear hb5 d0 d1 z0 z1
            cases fo
            · have hz : Hid (r = false) := hid (HNo3.out rfl)
              go_wp2_with fail
              go_ret
              exact ⟨by rw [hz.out]; rfl, HBZ.out⟩
            · have HM3 := hid (HM2.out rfl)
              clear HM2 HNo3
              go_wp2_with fail
              go_roundw
              case rel => exact ⟨j + 1, by omega, by go_num, HB5, HM3⟩
              case measure => simp [intOf]; omega
        · have hje : j = hs.length := by omega
          have HY := hid (HYes2.out (fun m hm => HM.out m (by omega)))
          subst hje
          go_wp2_with fail
          go_roundw
          case rel => exact ⟨i + 1, by omega, by go_num, HBR, HY⟩
          case measure => simp [intOf]; omega
    · obtain rfl : i = l.length := by omega
      have hz : r = true := by rw [← HR.out]; exact few_yes (by omega) HN.out
      have HZ := hid hz
      clear hz
      go_wp2_with fail
      go_ret
      exact ⟨by rw [HZ.out]; rfl, HB.out⟩
end C35
end Go.Proofs.Ytahakgmfkplidaa
