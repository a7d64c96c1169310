/- Walks of layer 35 (graph): the name of a node, what is done there; no condition. -/
import Derived.Test.YtahakgmfkplidaaU35
namespace Go.Proofs.Ytahakgmfkplidaa
open Go.RowKit Go.Peri
namespace C35
def gateS : ByteArray := ⟨#[103, 97, 116, 101]⟩
/-- The name of a node. -/
def nameR (l : List Sv) (node : Int) : ByteArray := if node = 0 then gateS else if node < 0 ∨ l.length < node then ByteArray.empty else (l[(node - 1).toNat]!).name
/-- What a node does with a path. -/
def handR (l : List Sv) (node : Int) (path : ByteArray) : List Opr × Bool :=
  if node < 1 ∨ l.length < node then ([], false)
  else if Gx.ix Hn.path (l[(node - 1).toNat]!).hs path < (l[(node - 1).toNat]!).hs.length then (((l[(node - 1).toNat]!).hs[Gx.ix Hn.path (l[(node - 1).toNat]!).hs path]!).ops, true) else ([], false)
def HandR (W : World) (x : List Opr × Bool) (e : Ending) (w' : World) : Prop :=
  ∃ a n cap, e = .returned (.tuple #[.slice a n cap, .bool x.2]) ∧ Below W.heap.size W w' ∧ Hid (Reads Opr.enc 4 w' (.slice a n cap) x.1)
section
variable {p : Nat → Prop} (v : Value) (l : List Sv) (node : Int) (W : World)
set_option maxRecDepth 100000 in
theorem name_any (r : ByteArray) (h : RowsOf p Sv.enc 2 W v l) (hp : ∀ b, p b → b < W.heap.size) (hl : l.length ≤ 10000000000000) (hr : nameR l node = r) :
    Calls Try.prog 17 #[v, .int .i64 node] W fun e w' => e = .returned (.string r) ∧ W = w' := by
  obtain ⟨a, cap, rfl, hlc, hcm, _, hcell⟩ := h
  have HR := hid hr
  unfold nameR at HR
  clear hp hr
  by_cases h0 : node = 0
  · subst h0
    rw [if_pos rfl] at HR
    clear hcell
    go_enter Try.func17, Try.ntmps17
    go_wp2_with fail
    go_ret
    exact ⟨by rw [← HR.out]; rfl, rfl⟩
  rw [if_neg h0] at HR
  by_cases h1 : node < 0
  · rw [if_pos (.inl h1)] at HR
    clear hcell
    go_enter Try.func17, Try.ntmps17
    go_wp2_with fail
    go_ret
    exact ⟨by rw [← HR.out]; rfl, rfl⟩
  by_cases h2 : l.length < node
  · rw [if_pos (.inr h2)] at HR
    clear hcell
    go_enter Try.func17, Try.ntmps17
    go_wp2_with fail
    go_ret
    exact ⟨by rw [← HR.out]; rfl, rfl⟩
  rw [if_neg (by omega)] at HR
  obtain ⟨k, rfl⟩ : ∃ k : Nat, node = (k : Int) + 1 := ⟨(node - 1).toNat, by omega⟩
  have hk : k < l.length := by omega
  have hwr : IntKind.i64.wrap ((k : Int) + 1 - 1) = (k : Int) := by rw [IntWalk.i64_in _ (by omega)]; omega
  have hkk : ((k : Int) + 1 - 1).toNat = k := by omega
  rw [hkk, getElem!_pos l k hk] at HR
  obtain ⟨b, off, rfl, hpb, hc⟩ := hcell.resolve_left (by intro e; rw [e] at hk; simp at hk)
  obtain ⟨c0, -⟩ := Sv.cells (fun j u hu => hc k hk j u hu)
  generalize l[k] = y at c0 HR
  clear hc hcell hkk
  go_enter Try.func17, Try.ntmps17
  go_wp2_with fail
  go_ret
  exact ⟨by rw [← HR.out]; rfl, rfl⟩
set_option maxRecDepth 100000 in
theorem rname_any (r : ByteArray) (h : RowsOf p Sv.enc 2 W v l) (hp : ∀ b, p b → b < W.heap.size) (hl : l.length ≤ 10000000000000) (hr : nameR l node = r) :
    Calls Try.prog 18 #[v, .int .i64 node] W fun e w' => e = .returned (.string r) ∧ W = w' := by
  obtain ⟨a, cap, rfl, hlc, hcm, _, hcell⟩ := h
  have HR := hid hr
  unfold nameR at HR
  clear hp hr
  by_cases h0 : node = 0
  · subst h0
    rw [if_pos rfl] at HR
    clear hcell
    go_enter Try.func18, Try.ntmps18
    go_wp2_with fail
    go_ret
    exact ⟨by rw [← HR.out]; rfl, rfl⟩
  rw [if_neg h0] at HR
  by_cases h1 : node < 1
  · rw [if_pos (.inl (by omega))] at HR
    clear hcell
    go_enter Try.func18, Try.ntmps18
    go_wp2_with fail
    go_ret
    exact ⟨by rw [← HR.out]; rfl, rfl⟩
  by_cases h2 : l.length < node
  · rw [if_pos (.inr h2)] at HR
    clear hcell
    go_enter Try.func18, Try.ntmps18
    go_wp2_with fail
    go_ret
    exact ⟨by rw [← HR.out]; rfl, rfl⟩
  rw [if_neg (by omega)] at HR
  obtain ⟨k, rfl⟩ : ∃ k : Nat, node = (k : Int) + 1 := ⟨(node - 1).toNat, by omega⟩
  have hk : k < l.length := by omega
  have hwr : IntKind.i64.wrap ((k : Int) + 1 - 1) = (k : Int) := by rw [IntWalk.i64_in _ (by omega)]; omega
  have hkk : ((k : Int) + 1 - 1).toNat = k := by omega
  rw [hkk, getElem!_pos l k hk] at HR
  obtain ⟨b, off, rfl, hpb, hc⟩ := hcell.resolve_left (by intro e; rw [e] at hk; simp at hk)
  obtain ⟨c0, -⟩ := Sv.cells (fun j u hu => hc k hk j u hu)
  generalize l[k] = y at c0 HR
  clear hc hcell hkk
  go_enter Try.func18, Try.ntmps18
  go_wp2_with fail
  go_ret
  exact ⟨by rw [← HR.out]; rfl, rfl⟩
set_option maxRecDepth 100000 in
set_option maxHeartbeats 4000000 in
theorem handler2_any (path : ByteArray) (r : List Opr × Bool) (h : RowsOf p Sv.enc 2 W v l) (hp : ∀ b, p b → b < W.heap.size) (hl : l.length ≤ 10000000000000) (hk : ∀ x ∈ l, SOk p W x) (ho : ∀ x ∈ l, ∀ h ∈ x.hs, h.ops.length ≤ 1000000) (hr : handR l node path = r) :
    Calls Try.prog 13 #[v, .int .i64 node, .string path] W (HandR W r) := by
  obtain ⟨a, cap, rfl, hlc, hcm, _, hcell⟩ := h
  have HP := hid hp
  have HR := hid hr
  unfold handR at HR
  clear hp hr
  by_cases h1 : node < 1
  · rw [if_pos (.inl h1)] at HR
    clear hcell
    go_enter Try.func13, Try.ntmps13
    go_wp2_with fail
    go_ret2
    exact ⟨none, 0, 0, by rw [← HR.out]; rfl, Below.refl _ _, hid ⟨p, HP.out, by rw [← HR.out]; exact RowsOf.nil _ _ _ _⟩⟩
  by_cases h2 : l.length < node
  · rw [if_pos (.inr h2)] at HR
    clear hcell
    go_enter Try.func13, Try.ntmps13
    go_wp2_with fail
    go_ret2
    exact ⟨none, 0, 0, by rw [← HR.out]; rfl, Below.refl _ _, hid ⟨p, HP.out, by rw [← HR.out]; exact RowsOf.nil _ _ _ _⟩⟩
  rw [if_neg (by omega)] at HR
  obtain ⟨k, rfl⟩ : ∃ k : Nat, node = (k : Int) + 1 := ⟨(node - 1).toNat, by omega⟩
  have hkl : k < l.length := by omega
  have hwr : IntKind.i64.wrap ((k : Int) + 1 - 1) = (k : Int) := by rw [IntWalk.i64_in _ (by omega)]; omega
  have hkk : ((k : Int) + 1 - 1).toNat = k := by omega
  rw [hkk, getElem!_pos l k hkl] at HR
  obtain ⟨b, off, rfl, hpb, hc⟩ := hcell.resolve_left (by intro e; rw [e] at hkl; simp at hkl)
  obtain ⟨-, c1⟩ := Sv.cells (fun j u hu => hc k hkl j u hu)
  have HKI := hid (hk l[k] (List.getElem_mem hkl))
  have HOI := hid (ho l[k] (List.getElem_mem hkl))
  generalize l[k] = y at c1 HR HKI HOI
  obtain ⟨name, pa, pcap, hs⟩ := y
  dsimp only at c1 HR HOI
  clear hc hcell hkk hk ho
  obtain ⟨q, hq⟩ : ∃ q, Gx.ix Hn.path hs path = q := ⟨_, rfl⟩
  have hat : Gx.atI Hn.path hs path = if q < hs.length then (q : Int) else -1 := by rw [← hq]; rfl
  rw [hq] at HR
  obtain ⟨a2, cap2, e2, hlc2, hcm2, _, hcell2⟩ := HKI.out.rows
  cases e2
  by_cases hqn : q < hs.length
  · rw [if_pos hqn] at hat HR
    have XF := hid (hfind_any (p := p) (.slice pa hs.length pcap) hs path q W HKI.out.rows HP.out HKI.out.len hat)
    obtain ⟨b2, off2, e3, hpb2, hc2⟩ := hcell2.resolve_left (by intro e; dsimp only at e; rw [e] at hqn; simp at hqn)
    subst e3
    have hbl2 := HP.out b2 hpb2
    obtain ⟨-, z1⟩ := Hn.cells (w := W) (b := b2) (o := off2 + q * 2) (fun n u hu => hc2 q hqn n u hu)
    have HZ1 := hid z1
    have HKJ := hid (HKI.out.hs hs[q] (List.getElem_mem hqn))
    have HOJ := hid (HOI.out hs[q] (List.getElem_mem hqn))
    rw [getElem!_pos hs q hqn] at HR
    clear hc2 hcell2 z1 hat hq HOI
    generalize hs[q] = x at HZ1 HKJ HOJ HR
    obtain ⟨xp, qa, qcap, ops⟩ := x
    dsimp only at HZ1 HOJ HR
    have XC : Hid (∀ w, Below W.heap.size W w → Calls Try.prog 26 #[.slice qa ops.length qcap] w fun e w' => ∃ a cap, e = .returned (.slice a ops.length cap) ∧ Below w.heap.size w w' ∧ Hid (w'.ownsRow w.heap.size 45 4 (.slice a ops.length cap) ops.length (ops.flatMap Opr.enc))) :=
      hid (fun w hb => oclone_any (p := p) _ ops w (RowsOf.below HKJ.out.rows hb HP.out) (fun b hb' => Nat.lt_of_lt_of_le (HP.out b hb') hb.size) HOJ.out)
    generalize hon : ops.length = on at HZ1 XC
    have HON := hid hon
    clear hon
    go_enter Try.func13, Try.ntmps13
    go_wp2_with fail
    refine XF.out.mono ?_
    rintro e w1 ⟨rfl, hb1⟩
    have z1 := (hb1.cell (p := ⟨b2, off2 + q * 2 + 1, none⟩) hbl2).trans HZ1.out
    have HB1 := hid hb1
    clear hb1
    have i1 : (0 : Int) ≤ (q : Int) := by omega
    have i2 : (q : Int) < (hs.length : Int) := by omega
    have i3 : ¬ (q : Int) < 0 := by omega
    go_wp2_with fail
    refine (XC.out _ HB1.out).mono ?_
    rintro e w2 ⟨a5, cap5, rfl, hb2, hown⟩
    have HB2 := hid (HB1.out.trans (hb2.mono HB1.out.size))
    have hrd : Reads Opr.enc 4 w2 (.slice a5 on cap5) ops := by
      have hown := hown.out
      rw [← HON.out]
      have h2 := hown
      rw [← HON.out] at h2
      exact Reads.owns (enc := Opr.enc) Opr.enc_length h2
    have HRD := hid hrd
    clear hb2 hown hrd z1
    go_wp2_with fail
    go_ret2
    exact ⟨a5, on, cap5, by rw [← HR.out]; rfl, HB2.out, by rw [← HR.out]; exact HRD⟩
  · rw [if_neg hqn] at hat HR
    have XF := hid (hfind_any (p := p) (.slice pa hs.length pcap) hs path (-1) W HKI.out.rows HP.out HKI.out.len hat)
    clear hcell2 hat hq HOI
    go_enter Try.func13, Try.ntmps13
    go_wp2_with fail
    refine XF.out.mono ?_
    rintro e w1 ⟨rfl, hb1⟩
    have HB1 := hid hb1
    clear hb1
    go_wp2_with fail
    go_ret2
    exact ⟨none, 0, 0, by rw [← HR.out]; rfl, HB1.out, hid ⟨p, fun b hb => Nat.lt_of_lt_of_le (HP.out b hb) HB1.out.size, by rw [← HR.out]; exact RowsOf.nil _ _ _ _⟩⟩
set_option maxRecDepth 100000 in
set_option maxHeartbeats 4000000 in
theorem rhandler2_any (path : ByteArray) (r : List Opr × Bool) (h : RowsOf p Sv.enc 2 W v l) (hp : ∀ b, p b → b < W.heap.size) (hl : l.length ≤ 10000000000000) (hk : ∀ x ∈ l, SOk p W x) (hr : handR l node path = r) :
    Calls Try.prog 14 #[v, .int .i64 node, .string path] W (HandR W r) := by
  obtain ⟨a, cap, rfl, hlc, hcm, _, hcell⟩ := h
  have HP := hid hp
  have HR := hid hr
  unfold handR at HR
  clear hp hr
  by_cases h1 : node < 1
  · rw [if_pos (.inl h1)] at HR
    clear hcell
    go_enter Try.func14, Try.ntmps14
    go_wp2_with fail
    go_ret2
    exact ⟨none, 0, 0, by rw [← HR.out]; rfl, Below.refl _ _, hid ⟨p, HP.out, by rw [← HR.out]; exact RowsOf.nil _ _ _ _⟩⟩
  by_cases h2 : l.length < node
  · rw [if_pos (.inr h2)] at HR
    clear hcell
    go_enter Try.func14, Try.ntmps14
    go_wp2_with fail
    go_ret2
    exact ⟨none, 0, 0, by rw [← HR.out]; rfl, Below.refl _ _, hid ⟨p, HP.out, by rw [← HR.out]; exact RowsOf.nil _ _ _ _⟩⟩
  rw [if_neg (by omega)] at HR
  obtain ⟨k, rfl⟩ : ∃ k : Nat, node = (k : Int) + 1 := ⟨(node - 1).toNat, by omega⟩
  have hkl : k < l.length := by omega
  have hwr : IntKind.i64.wrap ((k : Int) + 1 - 1) = (k : Int) := by rw [IntWalk.i64_in _ (by omega)]; omega
  have hkk : ((k : Int) + 1 - 1).toNat = k := by omega
  rw [hkk, getElem!_pos l k hkl] at HR
  obtain ⟨b, off, rfl, hpb, hc⟩ := hcell.resolve_left (by intro e; rw [e] at hkl; simp at hkl)
  obtain ⟨-, c1⟩ := Sv.cells (fun j u hu => hc k hkl j u hu)
  have HKI := hid (hk l[k] (List.getElem_mem hkl))
  generalize l[k] = y at c1 HR HKI
  obtain ⟨name, pa, pcap, hs⟩ := y
  dsimp only at c1 HR
  clear hc hcell hkk hk
  obtain ⟨a2, cap2, e2, hlc2, hcm2, _, hcell2⟩ := HKI.out.rows
  cases e2
  have hhl : hs.length ≤ 10000000000000 := HKI.out.len
  have HC2 := hid hcell2
  clear hcell2
  go_enter Try.func14, Try.ntmps14
  go_wp2_with fail
  go_loopw [9] (fun i wr => W = wr ∧ ∃ j : Nat, j ≤ hs.length ∧ i = .int .i64 j ∧ Hid (∀ m (_ : m < j) (hm : m < hs.length), Hn.path hs[m] ≠ path)) (fun i _ => hs.length - (intOf i).toNat)
  case atStart => exact ⟨rfl, 0, Nat.zero_le _, rfl, hid (fun j hj => absurd hj (Nat.not_lt_zero _))⟩
  case round =>
    obtain ⟨rfl, q, hqn, rfl, HN⟩ := hrel
    by_cases hlt : q < hs.length
    · obtain ⟨b2, off2, e3, hpb2, hc2⟩ := HC2.out.resolve_left (by intro e; rw [e] at hlt; simp at hlt)
      subst e3
      obtain ⟨z0, z1⟩ := Hn.cells (w := W) (b := b2) (o := off2 + q * 2) (fun n u hu => hc2 q hlt n u hu)
      have HNx : Hid (hs[q].path ≠ path → ∀ j (_ : j < q + 1) (hj : j < hs.length), Hn.path hs[j] ≠ path) := hid (fun h j hj hjl => by
        by_cases e : j = q
        · subst e; exact h
        · exact HN.out j (by omega) hjl)
      have HH : Hid (hs[q].path = path → r = (hs[q].ops, true)) := hid (fun h => by
        rw [← HR.out, Gx.ix_hit hlt h HN.out, if_pos hlt, getElem!_pos hs q hlt])
      have HKJ := hid (HKI.out.hs hs[q] (List.getElem_mem hlt))
      clear hc2
      generalize hs[q] = x at z0 z1 HNx HH HKJ
      obtain ⟨xp, qa, qcap, ops⟩ := x
      dsimp only at z0 z1 HNx HH
      generalize hon : ops.length = on at z1
      have HON := hid hon
      clear hon
      obtain ⟨bq, hbq⟩ : ∃ bq, decide (xp = path) = bq := ⟨_, rfl⟩
      obtain ⟨s1, s2⟩ := strEq_of hbq
      have HX := hid hbq
      clear hbq
      cases bq
      · go_wp2_with fail
        go_roundw
        case rel => exact ⟨by first | rfl | trivial, q + 1, by omega, by go_num, hid (HNx.out (of_decide_eq_false HX.out))⟩
        case measure => simp [intOf]; omega
      · have HZ := hid (HH.out (of_decide_eq_true HX.out))
        go_wp2_with fail
        go_ret2
        exact ⟨qa, on, qcap, by rw [HZ.out]; rfl, Below.refl _ _, hid ⟨p, HP.out, by rw [HZ.out, ← HON.out]; exact HKJ.out.rows⟩⟩
    · obtain rfl : q = hs.length := by omega
      have hz : r = ([], false) := by rw [← HR.out, Gx.ix_none (fun j hj => HN.out j hj hj), if_neg (by omega)]
      have HZ := hid hz
      clear hz
      go_wp2_with fail
      go_ret2
      exact ⟨none, 0, 0, by rw [HZ.out]; rfl, Below.refl _ _, hid ⟨p, HP.out, by rw [HZ.out]; exact RowsOf.nil _ _ _ _⟩⟩
end
end C35
end Go.Proofs.Ytahakgmfkplidaa
