/- Walks of layer 35 (graph): whether a service, services may be; no condition. -/
import Derived.Test.YtahakgmfkplidaaQ35
namespace Go.Proofs.Ytahakgmfkplidaa
open Go.RowKit Go.Peri
namespace C35
def gateB (s : ByteArray) : Bool := s.toList == [103, 97, 116, 101]
/-- What is wrong with a service at its place. -/
def sE (l : List Sv) (i : Nat) (s : Sv) : Int := if Hd.nameOk s.name = false then 7 else if gateB s.name = true then 7 else if Gx.dup Sv.name l i s.name = true then 10 else if 8 < s.hs.length then 8 else Gx.firstI (hE s.hs) 0 s.hs
def gE (l : List Sv) : Int := if 7 < l.length then 8 else Gx.firstI (sE l) 0 l
structure SOk (p : Nat → Prop) (w : World) (s : Sv) : Prop where
  name : s.name.size ≤ 1000000000000000
  rows : RowsOf p Hn.enc 2 w (.slice s.pa s.hs.length s.pcap) s.hs
  len : s.hs.length ≤ 10000000000000
  hs : ∀ h ∈ s.hs, HOk p w h
theorem SOk.below {p : Nat → Prop} {B : Nat} {w w' : World} {s : Sv} (k : SOk p w s) (ho : Below B w w') (hp : ∀ b, p b → b < B) : SOk p w' s := ⟨k.name, k.rows.below ho hp, k.len, fun h hh => (k.hs h hh).below ho hp⟩
set_option maxRecDepth 100000 in
set_option maxHeartbeats 4000000 in
theorem service_any {p : Nat → Prop} (v : Value) (l : List Sv) (i : Nat) (r : Int) (W : World) (h : RowsOf p Sv.enc 2 W v l) (hp : ∀ b, p b → b < W.heap.size) (hl : l.length ≤ 10000000000000) (hi : i < l.length) (hk : SOk p W l[i]) (hr : sE l i l[i] = r) :
    Calls Try.prog 21 #[v, .int .i64 i] W fun e w' => e = .returned (.int .i64 r) ∧ Below W.heap.size W w' := by
  obtain ⟨q, hqd⟩ : ∃ q, q = Gx.ix Sv.name l l[i].name := ⟨_, rfl⟩
  have hat : Gx.atI Sv.name l l[i].name = (q : Int) := by rw [hqd]; exact Gx.atI_own hi rfl
  have hdup : Gx.dup Sv.name l i l[i].name = decide (q < i) := by rw [hqd]; rfl
  have XF : Hid (∀ w, Below W.heap.size W w → Calls Try.prog 27 #[v, .string l[i].name, .func (.func 28) #[] #[]] w fun e w' => e = .returned (.int .i64 q) ∧ Below w.heap.size w w') :=
    hid (fun w hb => sfind_any v l _ _ w (h.below hb hp) (fun b hb' => Nat.lt_of_lt_of_le (hp b hb') hb.size) hl hat)
  have XH : Hid (∀ w k, Below W.heap.size W w → ∀ (hkl : k < l[i].hs.length), Calls Try.prog 30 #[.slice l[i].pa l[i].hs.length l[i].pcap, .int .i64 k] w fun e w' => e = .returned (.int .i64 (hE l[i].hs k (l[i].hs[k]!))) ∧ Below w.heap.size w w') :=
    hid (fun w k hb hkl => by
      rw [getElem!_pos l[i].hs k hkl]
      exact handler_any _ l[i].hs k _ w (hk.rows.below hb hp) (fun b hb' => Nat.lt_of_lt_of_le (hp b hb') hb.size) hk.len hkl ((hk.hs _ (List.getElem_mem hkl)).below hb hp) rfl)
  have XN := hid (fun w => C04.name_any l[i].name w hk.name)
  have hlen := hk.len
  have HR := hid hr
  unfold sE at HR
  rw [hdup] at HR
  clear hr hat hdup hqd hk
  obtain ⟨a, cap, rfl, hlc, hcm, _, hcell⟩ := h
  obtain ⟨b, off, rfl, hpb, hc⟩ := hcell.resolve_left (by intro e; rw [e] at hi; simp at hi)
  have hbl := hp b hpb
  obtain ⟨c0, c1⟩ := Sv.cells (fun j u hu => hc i hi j u hu)
  clear hc hcell hp hpb
  generalize l[i] = y at c0 c1 XF XH XN HR hlen
  obtain ⟨name, pa, pcap, hs⟩ := y
  dsimp only at c0 c1 XF XH XN HR hlen
  obtain ⟨no, hno⟩ : ∃ q, Hd.nameOk name = q := ⟨_, rfl⟩
  rw [hno] at XN HR
  obtain ⟨gb, hgb⟩ : ∃ q, gateB name = q := ⟨_, rfl⟩
  rw [hgb] at HR
  have g1 : (name.toList == [103, 97, 116, 101]) = gb := hgb
  clear hno hgb
  obtain ⟨n, hn⟩ : ∃ n, n = hs.length := ⟨_, rfl⟩
  rw [← hn] at c1 XH hlen HR
  have HL := hid hn
  clear hn
  go_enter Try.func21, Try.ntmps21
  go_upto_region 2 with fail
  refine wp_genG ?_
  intro w1 hw1
  have hb1 : Below W.heap.size W w1 := by rw [hw1]; go_grown
  have hk1 : Blk w1 W.heap.size #[.string name, .slice pa n pcap] 39 := by rw [hw1]; exact Blk.new _ _ _
  clear hw1 c0 c1
  have HB1 := hid hb1
  have HK1 := hid hk1
  obtain ⟨x0, x1⟩ := blk2o hk1
  clear hb1 hk1
  cases no
  · go_wp2_with fail
    refine (XN.out _).mono ?_
    rintro e w2 ⟨rfl, rfl⟩
    go_wp2_with fail
    go_ret
    exact ⟨by rw [← HR.out]; rfl, HB1.out⟩
  · cases gb
    · go_wp2_with fail
      refine (XN.out _).mono ?_
      rintro e w2 ⟨rfl, rfl⟩
      go_wp2_with fail
      refine (XF.out _ HB1.out).mono ?_
      rintro e w3 ⟨rfl, hb3⟩
      have HB3 := hid (HB1.out.trans (hb3.mono HB1.out.size))
      have HK3 := hid (HK1.out.later hb3)
      clear hb3 x0 x1
      obtain ⟨x0, x1⟩ := blk2o HK3.out
      by_cases hqi : q < i
      · rw [decide_eq_true hqi] at HR
        go_wp2_with fail
        go_ret
        exact ⟨by rw [← HR.out]; rfl, HB3.out⟩
      · rw [decide_eq_false hqi] at HR
        by_cases h8 : 8 < n
        · rw [if_pos h8] at HR
          go_wp2_with fail
          go_ret
          exact ⟨by rw [← HR.out]; rfl, HB3.out⟩
        · rw [if_neg h8] at HR
          have HF : Hid (Gx.firstI (hE hs) 0 (hs.drop 0) = r) := hid (by have := HR.out; simpa using this)
          clear HR
          go_wp2_with fail
          go_loopw [35] (fun k wr => ∃ m : Nat, m ≤ n ∧ k = .int .i64 m ∧ Hid (Below w3.heap.size w3 wr) ∧ Hid (Gx.firstI (hE hs) m (hs.drop m) = r)) (fun k _ => n - (intOf k).toNat)
          case atStart => exact ⟨0, Nat.zero_le _, rfl, hid (Below.refl _ _), HF⟩
          case round =>
            obtain ⟨m, hm, rfl, HB4, HN⟩ := hrel
            obtain ⟨y0, y1⟩ := blk2o (HK3.out.later HB4.out)
            clear x0 x1
            have HBW := hid (HB3.out.trans (HB4.out.mono HB3.out.size))
            by_cases hlt : m < n
            · have hmh : m < hs.length := by rw [← HL.out]; exact hlt
              have HD := hid (Gx.firstI_drop (g := hE hs) hmh)
              rw [HN.out] at HD
              have X := hid (XH.out wr m HBW.out hlt)
              rw [getElem!_pos hs m hmh] at X
              obtain ⟨he, hhe⟩ : ∃ q, hE hs m hs[m] = q := ⟨_, rfl⟩
              rw [hhe] at X HD
              clear hhe hmh
              go_wp2_with fail
              refine X.out.mono ?_
              rintro e w5 ⟨rfl, hb5⟩
              have HB5 := hid (HB4.out.trans (hb5.mono HB4.out.size))
              have HBZ := hid (HB3.out.trans (HB5.out.mono HB3.out.size))
              clear hb5 y0 y1
              obtain ⟨z, hz⟩ : ∃ z, (he != 0) = z := ⟨_, rfl⟩
              rw [hz] at HD
              cases z
              · have HN2 : Hid (Gx.firstI (hE hs) (m + 1) (hs.drop (m + 1)) = r) := hid (by have := HD.out; rw [if_neg (by decide)] at this; exact this.symm)
                go_wp2_with fail
                go_roundw
                case rel => exact ⟨m + 1, by omega, by go_num, HB5, HN2⟩
                case measure => simp [intOf]; omega
              · have HN2 : Hid (r = he) := hid (by have := HD.out; rwa [if_pos rfl] at this)
                go_wp2_with fail
                go_ret
                exact ⟨by rw [HN2.out]; rfl, HBZ.out⟩
            · have hme : m = n := by omega
              have hz : r = 0 := by rw [← HN.out, hme, HL.out]; exact Gx.firstI_end
              have HZ := hid hz
              clear hz hme
              go_wp2_with fail
              go_ret
              exact ⟨by rw [HZ.out]; rfl, HBW.out⟩
    · go_wp2_with fail
      refine (XN.out _).mono ?_
      rintro e w2 ⟨rfl, rfl⟩
      go_wp2_with fail
      go_ret
      exact ⟨by rw [← HR.out]; rfl, HB1.out⟩
set_option maxRecDepth 100000 in
set_option maxHeartbeats 4000000 in
theorem gcheck_any {p : Nat → Prop} (v : Value) (l : List Sv) (r : Int) (W : World) (h : RowsOf p Sv.enc 2 W v l) (hp : ∀ b, p b → b < W.heap.size) (hl : l.length ≤ 10000000000000) (hk : ∀ x ∈ l, SOk p W x) (hr : gE l = r) :
    Calls Try.prog 8 #[v] W fun e w' => e = .returned (.int .i64 r) ∧ Below W.heap.size W w' := by
  have XS : Hid (∀ w k, Below W.heap.size W w → ∀ (hkl : k < l.length), Calls Try.prog 21 #[v, .int .i64 k] w fun e w' => e = .returned (.int .i64 (sE l k (l[k]!))) ∧ Below w.heap.size w w') :=
    hid (fun w k hb hkl => by
      rw [getElem!_pos l k hkl]
      exact service_any _ l k _ w (h.below hb hp) (fun b hb' => Nat.lt_of_lt_of_le (hp b hb') hb.size) hl hkl ((hk _ (List.getElem_mem hkl)).below hb hp) rfl)
  obtain ⟨a, cap, rfl, hlc, hcm, -, -⟩ := h
  have HR := hid hr
  unfold gE at HR
  clear hp hk hr
  obtain ⟨n, hn⟩ : ∃ n, n = l.length := ⟨_, rfl⟩
  rw [← hn] at XS HR hl hlc ⊢
  have HL := hid hn
  clear hn
  by_cases h7 : 7 < n
  · rw [if_pos h7] at HR
    go_enter Try.func8, Try.ntmps8
    go_wp2_with fail
    go_ret
    exact ⟨by rw [← HR.out]; rfl, Below.refl _ _⟩
  rw [if_neg h7] at HR
  have HF : Hid (Gx.firstI (sE l) 0 (l.drop 0) = r) := hid (by have := HR.out; simpa using this)
  clear HR
  go_enter Try.func8, Try.ntmps8
  go_wp2_with fail
  go_loopw [10] (fun k wr => ∃ m : Nat, m ≤ n ∧ k = .int .i64 m ∧ Hid (Below W.heap.size W wr) ∧ Hid (Gx.firstI (sE l) m (l.drop m) = r)) (fun k _ => n - (intOf k).toNat)
  case atStart => exact ⟨0, Nat.zero_le _, rfl, hid (Below.refl _ _), HF⟩
  case round =>
    obtain ⟨m, hm, rfl, HB4, HN⟩ := hrel
    by_cases hlt : m < n
    · have hmh : m < l.length := by rw [← HL.out]; exact hlt
      have HD := hid (Gx.firstI_drop (g := sE l) hmh)
      rw [HN.out] at HD
      have X := hid (XS.out wr m HB4.out hlt)
      rw [getElem!_pos l m hmh] at X
      obtain ⟨he, hhe⟩ : ∃ q, sE l m l[m] = q := ⟨_, rfl⟩
      rw [hhe] at X HD
      clear hhe hmh
      go_wp2_with fail
      refine X.out.mono ?_
      rintro e w5 ⟨rfl, hb5⟩
      have HB5 := hid (HB4.out.trans (hb5.mono HB4.out.size))
      clear hb5
      obtain ⟨z, hz⟩ : ∃ z, (he != 0) = z := ⟨_, rfl⟩
      rw [hz] at HD
      cases z
      · have HN2 : Hid (Gx.firstI (sE l) (m + 1) (l.drop (m + 1)) = r) := hid (by have := HD.out; rw [if_neg (by decide)] at this; exact this.symm)
        go_wp2_with fail
        go_roundw
        case rel => exact ⟨m + 1, by omega, by go_num, HB5, HN2⟩
        case measure => simp [intOf]; omega
      · have HN2 : Hid (r = he) := hid (by have := HD.out; rwa [if_pos rfl] at this)
        go_wp2_with fail
        go_ret
        exact ⟨by rw [HN2.out]; rfl, HB5.out⟩
    · have hme : m = n := by omega
      have hz : r = 0 := by rw [← HN.out, hme, HL.out]; exact Gx.firstI_end
      have HZ := hid hz
      clear hz hme
      go_wp2_with fail
      go_ret
      exact ⟨by rw [HZ.out]; rfl, HB4.out⟩
end C35
end Go.Proofs.Ytahakgmfkplidaa
