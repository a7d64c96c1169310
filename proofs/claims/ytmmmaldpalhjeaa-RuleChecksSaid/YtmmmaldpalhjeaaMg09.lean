/- Walks of layer 12 (rule): whether a rule may be, as the document says; no condition. Walks of the laws of layers 12 and 14: few and short names; no condition. The law RuleChecks walked (12); no condition. -/
import Derived.Test.YtmmmaldpalhjeaaMg06
import Derived.Test.YtmmmaldpalhjeaaMg08
namespace Go.Proofs.Ytmmmaldpalhjeaa
open Go.RowKit Go.Peri
namespace C12
theorem sized_alt (n lo hi pct : Int) : sizedB n lo hi pct = (decide (¬ n < lo ∧ ¬ hi < n) || decide (n = 0 ∧ pct = 0)) := by
  unfold sizedB inB
  by_cases h1 : n < lo <;> by_cases h2 : hi < n <;> by_cases h3 : n = 0 <;> by_cases h4 : pct = 0 <;> simp [h1, h2, h3, h4] <;> omega
set_option maxRecDepth 100000 in
set_option maxHeartbeats 2000000 in
theorem rcheck_any (rank : Int) (pa : Option Addr) (pcap : Nat) (ps : List Prd) (target : ByteArray) (ap as_ dp dt mp : Int) (mirror : ByteArray) (sample : Int) (ns : List ByteArray) (vn : Value) (c : Int) (W : World)
    (hp : RowsOf (· < W.heap.size) Prd.enc 3 W (.slice pa ps.length pcap) ps) (hw : ∀ x ∈ ps, x.Wf) (hpl : ps.length ≤ 1000000000) (hn : RowsOf (· < W.heap.size) sEnc 1 W vn ns) (hl : ns.length ≤ 1000000000000) (hc : checkR rank ps target ap as_ dp dt mp mirror sample ns = c) :
    Calls Try.prog 46 #[.agg #[.int .i64 rank, .slice pa ps.length pcap, .string target, .int .i64 ap, .int .i64 as_, .int .i64 dp, .int .i64 dt, .int .i64 mp, .string mirror, .int .i64 sample], vn] W fun e w' => e = .returned (.int .i64 c) ∧ Below W.heap.size W w' := by
  unfold checkR at hc
  have HC := hid hc
  have HPS := hid hp
  have HWF := hid hw
  have HNS := hid hn
  clear hc hp hw hn
  have hrk : inB rank 0 99 = (!decide (rank < 0) && !decide (99 < rank)) := by
    unfold inB
    by_cases h1 : rank < 0 <;> by_cases h2 : 99 < rank <;> simp [h1, h2] <;> omega
  have HRK := hid hrk
  clear hrk
  go_enter Try.func46, Try.ntmps46
  go_upto_region 1 with fail
  refine wp_gen ?_
  intro w1 hw1
  have hb1 : Below W.heap.size W w1 := by rw [hw1]; go_grown
  have hk1 : Blk w1 W.heap.size #[.int .i64 rank, .slice pa ps.length pcap, .string target, .int .i64 ap, .int .i64 as_, .int .i64 dp, .int .i64 dt, .int .i64 mp, .string mirror, .int .i64 sample] 60 := by rw [hw1]; exact Blk.new _ _ _
  clear hw1
  have HB1 := hid hb1
  have HK1 := hid hk1
  have c0 : w1.cell? ⟨W.heap.size, 0, none⟩ = some (.int .i64 rank) := hk1.cell 0
  have c1 : w1.cell? ⟨W.heap.size, 1, none⟩ = some (.slice pa ps.length pcap) := hk1.cell 1
  clear hb1 hk1
  by_cases hr0 : rank < 0
  · have HCR : Hid (c = 12) := by show _ = _; rw [← HC.out, HRK.out]; simp [hr0]
    have hd : decide (rank < 0) = true := by simpa using hr0
    go_wp2_with fail
    go_ret
    exact ⟨by rw [HCR.out]; rfl, HB1.out⟩
  have hd : decide (rank < 0) = false := by simpa using hr0
  by_cases hr9 : 99 < rank
  · have HCR : Hid (c = 12) := by show _ = _; rw [← HC.out, HRK.out]; simp [hr9]
    go_wp2_with fail
    go_ret
    exact ⟨by rw [HCR.out]; rfl, HB1.out⟩
  have hd9 : decide (99 < rank) = false := by simpa using hr9
  by_cases h4 : 4 < ps.length
  · have HCR : Hid (c = 8) := by show _ = _; rw [← HC.out, HRK.out, hd, hd9]; simp [h4]
    go_wp2_with fail
    go_ret
    exact ⟨by rw [HCR.out]; rfl, HB1.out⟩
  have h0 := HC.out
  rw [HRK.out, hd, hd9, if_neg (by simp), if_neg h4] at h0
  obtain ⟨rest, hrest⟩ : ∃ q, (if isIn ns target = false then (7 : Int) else if mirror.size ≠ 0 ∧ isIn ns mirror = false then 7 else if ([ap, dp, mp, sample].all fun n => inB n 0 100) = false then 12 else if sizedB as_ 400 599 ap = false then 12 else if sizedB dt 1 50 dp = false then 12 else if 0 < mp ∧ mirror.size = 0 then 9 else 0) = q := ⟨_, rfl⟩
  rw [hrest] at h0
  have HC2 := hid h0
  have HRS := hid hrest
  clear h0 hrest HC HRK
  go_wp2_with fail
  go_loopw [5] (fun i wr => ∃ k : Nat, k ≤ ps.length ∧ i = .int .i64 k ∧ Hid (bad (ps.drop k) = bad ps) ∧ Below w1.heap.size w1 wr) (fun i _ => ps.length - (intOf i).toNat)
  case atStart => exact ⟨0, Nat.zero_le _, rfl, hid rfl, Below.refl _ _⟩
  case round =>
    obtain ⟨k, hk, rfl, hbd, hb⟩ := hrel
    have HB := hid hb
    clear hb c0 c1
    have hkk := HK1.out.below HB.out HK1.out.lt
    have c1 : wr.cell? ⟨W.heap.size, 1, none⟩ = some (.slice pa ps.length pcap) := hkk.cell 1
    have hlt := hkk.lt
    by_cases hk2 : k < ps.length
    · obtain ⟨kd, nm, vl, hx⟩ : ∃ kd nm vl, ps[k] = ⟨kd, nm, vl⟩ := ⟨_, _, _, rfl⟩
      have hwf := HWF.out ps[k] (List.getElem_mem hk2)
      rw [hx] at hwf
      obtain ⟨e, he⟩ : ∃ e, C11.checkR kd nm vl = e := ⟨_, rfl⟩
      have HPC := hid (fun w => C11.rcheck_any kd nm vl e w (Nat.le_trans hwf.name (by decide)) (Nat.le_trans hwf.value (by decide)) he)
      have HBD : Hid (bad ps = if e = 0 then bad (ps.drop (k + 1)) else e) := by show _ = _; rw [← hbd.out, bad_drop ps k hk2, hx, he]
      have hrow := (HPS.out.below (HB1.out.trans (HB.out.mono HB1.out.size)) (fun _ h => h))
      obtain ⟨b, off, rfl, cc0, cc1, cc2⟩ : ∃ b off, pa = some ⟨b, off, none⟩ ∧ wr.cell? ⟨b, off + k * 3, none⟩ = some (.int .i64 kd) ∧ wr.cell? ⟨b, off + k * 3 + 1, none⟩ = some (.string nm) ∧ wr.cell? ⟨b, off + k * 3 + 2, none⟩ = some (.string vl) := by
        obtain ⟨a', cap', e', _, _, _, h5⟩ := hrow
        rcases h5 with h0 | ⟨b, off, h1, _, h3⟩
        · rw [h0] at hk2; simp at hk2
        · cases e'
          exact ⟨b, off, h1, h3 k hk2 0 _ (by rw [hx]; rfl), h3 k hk2 1 _ (by rw [hx]; rfl), h3 k hk2 2 _ (by rw [hx]; rfl)⟩
      clear he hwf hrow hkk
      by_cases he0 : e = 0
      · subst he0
        have HBD2 : Hid (bad (ps.drop (k + 1)) = bad ps) := by show _ = _; rw [HBD.out]; simp
        clear HBD
        go_wp2_with fail
        refine (HPC.out _).mono ?_
        rintro e' w2 ⟨rfl, hb2⟩
        have HB2 := hid (HB.out.trans (hb2.mono HB.out.size))
        clear hb2
        go_wp2_with fail
        go_roundw
        case rel => exact ⟨k + 1, by omega, by go_num, HBD2, HB2.out⟩
        case measure => simp [intOf]; omega
      · have HCE : Hid (c = e) := by
          have hbe : bad ps = e := by rw [HBD.out, if_neg he0]
          show _ = _
          rw [← HC2.out, hbe, if_pos he0]
        have he1 : (e == 0) = false := by simpa using he0
        have he2 : (e != 0) = true := by simpa using he0
        clear HBD HC2
        go_wp2_with fail
        refine (HPC.out _).mono ?_
        rintro e' w2 ⟨rfl, hb2⟩
        have HB2 := hid (HB.out.trans (hb2.mono HB.out.size))
        clear hb2
        go_wp2_with fail
        go_ret
        exact ⟨by rw [HCE.out]; rfl, HB1.out.trans (HB2.out.mono HB1.out.size)⟩
    · obtain rfl : k = ps.length := by omega
      have hb0 : bad ps = 0 := by have := hbd.out; rw [List.drop_length] at this; exact this.symm
      have hcr := HC2.out
      rw [hb0, if_neg (by simp), ← HRS.out] at hcr
      have hk := hkk
      have c2 : wr.cell? ⟨W.heap.size, 2, none⟩ = some (.string target) := hk.cell 2
      have c3 : wr.cell? ⟨W.heap.size, 3, none⟩ = some (.int .i64 ap) := hk.cell 3
      have c4 : wr.cell? ⟨W.heap.size, 4, none⟩ = some (.int .i64 as_) := hk.cell 4
      have c5 : wr.cell? ⟨W.heap.size, 5, none⟩ = some (.int .i64 dp) := hk.cell 5
      have c6 : wr.cell? ⟨W.heap.size, 6, none⟩ = some (.int .i64 dt) := hk.cell 6
      have c7 : wr.cell? ⟨W.heap.size, 7, none⟩ = some (.int .i64 mp) := hk.cell 7
      have c8 : wr.cell? ⟨W.heap.size, 8, none⟩ = some (.string mirror) := hk.cell 8
      have c9 : wr.cell? ⟨W.heap.size, 9, none⟩ = some (.int .i64 sample) := hk.cell 9
      have HBR := hid (HB1.out.trans (HB.out.mono HB1.out.size))
      have hrn := HNS.out.below HBR.out (fun _ h => h)
      obtain ⟨q1, hq1⟩ : ∃ q, isIn ns target = q := ⟨_, rfl⟩
      obtain ⟨q2, hq2⟩ : ∃ q, isIn ns mirror = q := ⟨_, rfl⟩
      have HI1 := hid (in_any vn ns target q1 wr hrn hl hq1)
      have HI2 := hid (in_any vn ns mirror q2 wr hrn hl hq2)
      obtain ⟨p1, hp1⟩ : ∃ q, inB ap 0 100 = q := ⟨_, rfl⟩
      obtain ⟨p2, hp2⟩ : ∃ q, inB dp 0 100 = q := ⟨_, rfl⟩
      obtain ⟨p3, hp3⟩ : ∃ q, inB mp 0 100 = q := ⟨_, rfl⟩
      obtain ⟨p4, hp4⟩ : ∃ q, inB sample 0 100 = q := ⟨_, rfl⟩
      have HP1 := hid (fun w => part_any ap p1 w hp1)
      have HP2 := hid (fun w => part_any dp p2 w hp2)
      have HP3 := hid (fun w => part_any mp p3 w hp3)
      have HP4 := hid (fun w => part_any sample p4 w hp4)
      obtain ⟨pt, hpt⟩ : ∃ q, (p1 && (p2 && (p3 && p4))) = q := ⟨_, rfl⟩
      have hall : [ap, dp, mp, sample].all (fun n => inB n 0 100) = pt := by rw [← hpt]; simp [hp1, hp2, hp3, hp4]
      rw [hq1, hq2, hall] at hcr
      clear hq1 hq2 hp1 hp2 hp3 hp4 hall hk hkk hb0 hbd HC2 HRS HPS HWF HNS hrn
      -- LAST CASES
      rw [← hpt] at hcr
      clear hpt
      cases q1
      · have HCR : Hid (c = 7) := by show _ = _; rw [← hcr]; rfl
        clear hcr
        go_wp2_with fail
        refine HI1.out.mono ?_
        rintro e' w2 ⟨rfl, rfl⟩
        go_wp2_with fail
        go_ret
        exact ⟨by rw [HCR.out]; rfl, HBR.out⟩
      by_cases hm : mirror.size = 0
      · have HC3 : Hid (c = if (p1 && (p2 && (p3 && p4))) = false then 12 else if sizedB as_ 400 599 ap = false then 12 else if sizedB dt 1 50 dp = false then 12 else if 0 < mp ∧ mirror.size = 0 then 9 else 0) := by show _ = _; rw [← hcr]; simp [hm]
        obtain rfl := C11.none_of mirror hm
        have HME : Hid (ByteArray.empty.size = 0) := hid rfl
        clear hcr hm
        go_wp2_with fail
        refine HI1.out.mono ?_
        rintro e' w2 ⟨rfl, rfl⟩
        go_wp2_with fail
        refine (HP1.out _).mono ?_
        rintro e' w2 ⟨rfl, rfl⟩
        cases p1
        · go_wp2_with fail
          go_ret
          exact ⟨by rw [HC3.out]; rfl, HBR.out⟩
        go_wp2_with fail
        refine (HP2.out _).mono ?_
        rintro e' w2 ⟨rfl, rfl⟩
        cases p2
        · go_wp2_with fail
          go_ret
          exact ⟨by rw [HC3.out]; rfl, HBR.out⟩
        go_wp2_with fail
        refine (HP3.out _).mono ?_
        rintro e' w2 ⟨rfl, rfl⟩
        cases p3
        · go_wp2_with fail
          go_ret
          exact ⟨by rw [HC3.out]; rfl, HBR.out⟩
        go_wp2_with fail
        refine (HP4.out _).mono ?_
        rintro e' w2 ⟨rfl, rfl⟩
        cases p4
        · go_wp2_with fail
          go_ret
          exact ⟨by rw [HC3.out]; rfl, HBR.out⟩
        have HC4 := hid HC3.out
        have HC4 : Hid (c = if sizedB as_ 400 599 ap = false then 12 else if sizedB dt 1 50 dp = false then 12 else if 0 < mp ∧ ByteArray.empty.size = 0 then 9 else 0) := hid HC4.out
        clear HC3
        have keyA : (¬ as_ < 400 ∧ ¬ 599 < as_) ∨ (as_ = 0 ∧ ap = 0) ∨ (as_ < 400 ∧ as_ ≠ 0) ∨ (599 < as_) ∨ (as_ = 0 ∧ ap ≠ 0) := by omega
        have HSZA : Hid (sizedB as_ 400 599 ap = (decide (¬ as_ < 400 ∧ ¬ 599 < as_) || decide (as_ = 0 ∧ ap = 0))) := by show _ = _; exact sized_alt _ _ _ _
        rcases keyA with ⟨x1, x2⟩ | ⟨x1, x2⟩ | ⟨x1, x2⟩ | x1 | ⟨x1, x2⟩
        · have HC4b : Hid (c = _) := hid (HC4.out.trans (by rw [if_neg (by rw [HSZA.out]; simp [x1, x2])]))
          clear HSZA HC4
          have keyB : (¬ dt < 1 ∧ ¬ 50 < dt) ∨ (dt = 0 ∧ dp = 0) ∨ (dt < 1 ∧ dt ≠ 0) ∨ (50 < dt) ∨ (dt = 0 ∧ dp ≠ 0) := by omega
          have HSZB : Hid (sizedB dt 1 50 dp = (decide (¬ dt < 1 ∧ ¬ 50 < dt) || decide (dt = 0 ∧ dp = 0))) := by show _ = _; exact sized_alt _ _ _ _
          rcases keyB with ⟨x1, x2⟩ | ⟨x1, x2⟩ | ⟨x1, x2⟩ | x1 | ⟨x1, x2⟩
          · have HC5 : Hid (c = _) := hid (HC4b.out.trans (by rw [if_neg (by rw [HSZB.out]; simp [x1, x2])]))
            clear HSZB HC4b
            by_cases hmp : 0 < mp
            · have HCZ : Hid (c = 9) := by show _ = _; rw [HC5.out, if_pos ⟨hmp, HME.out⟩]
              go_wp2_with fail
              go_ret
              exact ⟨by rw [HCZ.out]; rfl, HBR.out⟩
            · have HCZ : Hid (c = 0) := by show _ = _; rw [HC5.out, if_neg (fun h => hmp h.1)]
              go_wp2_with fail
              go_ret
              exact ⟨by rw [HCZ.out]; rfl, HBR.out⟩
          · have HC5 : Hid (c = _) := hid (HC4b.out.trans (by rw [if_neg (by rw [HSZB.out]; simp [x1, x2])]))
            clear HSZB HC4b
            subst x1 x2
            by_cases hmp : 0 < mp
            · have HCZ : Hid (c = 9) := by show _ = _; rw [HC5.out, if_pos ⟨hmp, HME.out⟩]
              go_wp2_with fail
              go_ret
              exact ⟨by rw [HCZ.out]; rfl, HBR.out⟩
            · have HCZ : Hid (c = 0) := by show _ = _; rw [HC5.out, if_neg (fun h => hmp h.1)]
              go_wp2_with fail
              go_ret
              exact ⟨by rw [HCZ.out]; rfl, HBR.out⟩
          · have HCZ : Hid (c = 12) := by show _ = _; rw [HC4b.out, if_pos (by rw [HSZB.out]; simp; omega)]
            clear HSZB HC4b
            have y1 : (dt == 0) = false := by simpa using x2
            have y2 : (dt != 0) = true := by simpa using x2
            go_wp2_with fail
            go_ret
            exact ⟨by rw [HCZ.out]; rfl, HBR.out⟩
          · have HCZ : Hid (c = 12) := by show _ = _; rw [HC4b.out, if_pos (by rw [HSZB.out]; simp; omega)]
            clear HSZB HC4b
            have x0 : ¬ dt < 1 := by omega
            have y1 : (dt == 0) = false := by rw [beq_eq_false_iff_ne]; omega
            have y2 : (dt != 0) = true := by rw [bne, y1]; rfl
            go_wp2_with fail
            go_ret
            exact ⟨by rw [HCZ.out]; rfl, HBR.out⟩
          · have HCZ : Hid (c = 12) := by show _ = _; rw [HC4b.out, if_pos (by rw [HSZB.out]; simp; omega)]
            clear HSZB HC4b
            have y1 : (dp == 0) = false := by simpa using x2
            have y2 : (dp != 0) = true := by simpa using x2
            subst x1
            go_wp2_with fail
            go_ret
            exact ⟨by rw [HCZ.out]; rfl, HBR.out⟩
        · have HC4b : Hid (c = _) := hid (HC4.out.trans (by rw [if_neg (by rw [HSZA.out]; simp [x1, x2])]))
          clear HSZA HC4
          subst x1 x2
          have keyB : (¬ dt < 1 ∧ ¬ 50 < dt) ∨ (dt = 0 ∧ dp = 0) ∨ (dt < 1 ∧ dt ≠ 0) ∨ (50 < dt) ∨ (dt = 0 ∧ dp ≠ 0) := by omega
          have HSZB : Hid (sizedB dt 1 50 dp = (decide (¬ dt < 1 ∧ ¬ 50 < dt) || decide (dt = 0 ∧ dp = 0))) := by show _ = _; exact sized_alt _ _ _ _
          rcases keyB with ⟨x1, x2⟩ | ⟨x1, x2⟩ | ⟨x1, x2⟩ | x1 | ⟨x1, x2⟩
          · have HC5 : Hid (c = _) := hid (HC4b.out.trans (by rw [if_neg (by rw [HSZB.out]; simp [x1, x2])]))
            clear HSZB HC4b
            by_cases hmp : 0 < mp
            · have HCZ : Hid (c = 9) := by show _ = _; rw [HC5.out, if_pos ⟨hmp, HME.out⟩]
              go_wp2_with fail
              go_ret
              exact ⟨by rw [HCZ.out]; rfl, HBR.out⟩
            · have HCZ : Hid (c = 0) := by show _ = _; rw [HC5.out, if_neg (fun h => hmp h.1)]
              go_wp2_with fail
              go_ret
              exact ⟨by rw [HCZ.out]; rfl, HBR.out⟩
          · have HC5 : Hid (c = _) := hid (HC4b.out.trans (by rw [if_neg (by rw [HSZB.out]; simp [x1, x2])]))
            clear HSZB HC4b
            subst x1 x2
            by_cases hmp : 0 < mp
            · have HCZ : Hid (c = 9) := by show _ = _; rw [HC5.out, if_pos ⟨hmp, HME.out⟩]
              go_wp2_with fail
              go_ret
              exact ⟨by rw [HCZ.out]; rfl, HBR.out⟩
            · have HCZ : Hid (c = 0) := by show _ = _; rw [HC5.out, if_neg (fun h => hmp h.1)]
              go_wp2_with fail
              go_ret
              exact ⟨by rw [HCZ.out]; rfl, HBR.out⟩
          · have HCZ : Hid (c = 12) := by show _ = _; rw [HC4b.out, if_pos (by rw [HSZB.out]; simp; omega)]
            clear HSZB HC4b
            have y1 : (dt == 0) = false := by simpa using x2
            have y2 : (dt != 0) = true := by simpa using x2
            go_wp2_with fail
            go_ret
            exact ⟨by rw [HCZ.out]; rfl, HBR.out⟩
          · have HCZ : Hid (c = 12) := by show _ = _; rw [HC4b.out, if_pos (by rw [HSZB.out]; simp; omega)]
            clear HSZB HC4b
            have x0 : ¬ dt < 1 := by omega
            have y1 : (dt == 0) = false := by rw [beq_eq_false_iff_ne]; omega
            have y2 : (dt != 0) = true := by rw [bne, y1]; rfl
            go_wp2_with fail
            go_ret
            exact ⟨by rw [HCZ.out]; rfl, HBR.out⟩
          · have HCZ : Hid (c = 12) := by show _ = _; rw [HC4b.out, if_pos (by rw [HSZB.out]; simp; omega)]
            clear HSZB HC4b
            have y1 : (dp == 0) = false := by simpa using x2
            have y2 : (dp != 0) = true := by simpa using x2
            subst x1
            go_wp2_with fail
            go_ret
            exact ⟨by rw [HCZ.out]; rfl, HBR.out⟩
        · have HCZ : Hid (c = 12) := by show _ = _; rw [HC4.out, if_pos (by rw [HSZA.out]; simp; omega)]
          clear HSZA HC4
          have y1 : (as_ == 0) = false := by simpa using x2
          have y2 : (as_ != 0) = true := by simpa using x2
          go_wp2_with fail
          go_ret
          exact ⟨by rw [HCZ.out]; rfl, HBR.out⟩
        · have HCZ : Hid (c = 12) := by show _ = _; rw [HC4.out, if_pos (by rw [HSZA.out]; simp; omega)]
          clear HSZA HC4
          have x0 : ¬ as_ < 400 := by omega
          have y1 : (as_ == 0) = false := by rw [beq_eq_false_iff_ne]; omega
          have y2 : (as_ != 0) = true := by rw [bne, y1]; rfl
          go_wp2_with fail
          go_ret
          exact ⟨by rw [HCZ.out]; rfl, HBR.out⟩
        · have HCZ : Hid (c = 12) := by show _ = _; rw [HC4.out, if_pos (by rw [HSZA.out]; simp; omega)]
          clear HSZA HC4
          have y1 : (ap == 0) = false := by simpa using x2
          have y2 : (ap != 0) = true := by simpa using x2
          subst x1
          go_wp2_with fail
          go_ret
          exact ⟨by rw [HCZ.out]; rfl, HBR.out⟩
      · have HME : Hid (mirror.size ≠ 0) := hid hm
        obtain ⟨f1, f2, f3⟩ := C11.full_of mirror hm
        cases q2
        · have HCR : Hid (c = 7) := by show _ = _; rw [← hcr]; simp [hm]
          clear hcr hm
          go_wp2_with fail
          refine HI1.out.mono ?_
          rintro e' w2 ⟨rfl, rfl⟩
          go_wp2_with fail
          refine HI2.out.mono ?_
          rintro e' w2 ⟨rfl, rfl⟩
          go_wp2_with fail
          go_ret
          exact ⟨by rw [HCR.out]; rfl, HBR.out⟩
        · have HC3 : Hid (c = if (p1 && (p2 && (p3 && p4))) = false then 12 else if sizedB as_ 400 599 ap = false then 12 else if sizedB dt 1 50 dp = false then 12 else if 0 < mp ∧ mirror.size = 0 then 9 else 0) := by show _ = _; rw [← hcr]; simp
          clear hcr hm
          go_wp2_with fail
          refine HI1.out.mono ?_
          rintro e' w2 ⟨rfl, rfl⟩
          go_wp2_with fail
          refine HI2.out.mono ?_
          rintro e' w2 ⟨rfl, rfl⟩
          go_wp2_with fail
          refine (HP1.out _).mono ?_
          rintro e' w2 ⟨rfl, rfl⟩
          cases p1
          · go_wp2_with fail
            go_ret
            exact ⟨by rw [HC3.out]; rfl, HBR.out⟩
          go_wp2_with fail
          refine (HP2.out _).mono ?_
          rintro e' w2 ⟨rfl, rfl⟩
          cases p2
          · go_wp2_with fail
            go_ret
            exact ⟨by rw [HC3.out]; rfl, HBR.out⟩
          go_wp2_with fail
          refine (HP3.out _).mono ?_
          rintro e' w2 ⟨rfl, rfl⟩
          cases p3
          · go_wp2_with fail
            go_ret
            exact ⟨by rw [HC3.out]; rfl, HBR.out⟩
          go_wp2_with fail
          refine (HP4.out _).mono ?_
          rintro e' w2 ⟨rfl, rfl⟩
          cases p4
          · go_wp2_with fail
            go_ret
            exact ⟨by rw [HC3.out]; rfl, HBR.out⟩
          have HC4 := hid HC3.out
          have HC4 : Hid (c = if sizedB as_ 400 599 ap = false then 12 else if sizedB dt 1 50 dp = false then 12 else if 0 < mp ∧ mirror.size = 0 then 9 else 0) := hid HC4.out
          clear HC3
          have keyA : (¬ as_ < 400 ∧ ¬ 599 < as_) ∨ (as_ = 0 ∧ ap = 0) ∨ (as_ < 400 ∧ as_ ≠ 0) ∨ (599 < as_) ∨ (as_ = 0 ∧ ap ≠ 0) := by omega
          have HSZA : Hid (sizedB as_ 400 599 ap = (decide (¬ as_ < 400 ∧ ¬ 599 < as_) || decide (as_ = 0 ∧ ap = 0))) := by show _ = _; exact sized_alt _ _ _ _
          rcases keyA with ⟨x1, x2⟩ | ⟨x1, x2⟩ | ⟨x1, x2⟩ | x1 | ⟨x1, x2⟩
          · have HC4b : Hid (c = _) := hid (HC4.out.trans (by rw [if_neg (by rw [HSZA.out]; simp [x1, x2])]))
            clear HSZA HC4
            have keyB : (¬ dt < 1 ∧ ¬ 50 < dt) ∨ (dt = 0 ∧ dp = 0) ∨ (dt < 1 ∧ dt ≠ 0) ∨ (50 < dt) ∨ (dt = 0 ∧ dp ≠ 0) := by omega
            have HSZB : Hid (sizedB dt 1 50 dp = (decide (¬ dt < 1 ∧ ¬ 50 < dt) || decide (dt = 0 ∧ dp = 0))) := by show _ = _; exact sized_alt _ _ _ _
            rcases keyB with ⟨x1, x2⟩ | ⟨x1, x2⟩ | ⟨x1, x2⟩ | x1 | ⟨x1, x2⟩
            · have HC5 : Hid (c = _) := hid (HC4b.out.trans (by rw [if_neg (by rw [HSZB.out]; simp [x1, x2])]))
              clear HSZB HC4b
              have HCZ : Hid (c = 0) := by show _ = _; rw [HC5.out, if_neg (fun h => HME.out h.2)]
              clear HC5
              by_cases hmp : 0 < mp
              · go_wp2_with fail
                go_ret
                exact ⟨by rw [HCZ.out]; rfl, HBR.out⟩
              · go_wp2_with fail
                go_ret
                exact ⟨by rw [HCZ.out]; rfl, HBR.out⟩
            · have HC5 : Hid (c = _) := hid (HC4b.out.trans (by rw [if_neg (by rw [HSZB.out]; simp [x1, x2])]))
              clear HSZB HC4b
              subst x1 x2
              have HCZ : Hid (c = 0) := by show _ = _; rw [HC5.out, if_neg (fun h => HME.out h.2)]
              clear HC5
              by_cases hmp : 0 < mp
              · go_wp2_with fail
                go_ret
                exact ⟨by rw [HCZ.out]; rfl, HBR.out⟩
              · go_wp2_with fail
                go_ret
                exact ⟨by rw [HCZ.out]; rfl, HBR.out⟩
            · have HCZ : Hid (c = 12) := by show _ = _; rw [HC4b.out, if_pos (by rw [HSZB.out]; simp; omega)]
              clear HSZB HC4b
              have y1 : (dt == 0) = false := by simpa using x2
              have y2 : (dt != 0) = true := by simpa using x2
              go_wp2_with fail
              go_ret
              exact ⟨by rw [HCZ.out]; rfl, HBR.out⟩
            · have HCZ : Hid (c = 12) := by show _ = _; rw [HC4b.out, if_pos (by rw [HSZB.out]; simp; omega)]
              clear HSZB HC4b
              have x0 : ¬ dt < 1 := by omega
              have y1 : (dt == 0) = false := by rw [beq_eq_false_iff_ne]; omega
              have y2 : (dt != 0) = true := by rw [bne, y1]; rfl
              go_wp2_with fail
              go_ret
              exact ⟨by rw [HCZ.out]; rfl, HBR.out⟩
            · have HCZ : Hid (c = 12) := by show _ = _; rw [HC4b.out, if_pos (by rw [HSZB.out]; simp; omega)]
              clear HSZB HC4b
              have y1 : (dp == 0) = false := by simpa using x2
              have y2 : (dp != 0) = true := by simpa using x2
              subst x1
              go_wp2_with fail
              go_ret
              exact ⟨by rw [HCZ.out]; rfl, HBR.out⟩
          · have HC4b : Hid (c = _) := hid (HC4.out.trans (by rw [if_neg (by rw [HSZA.out]; simp [x1, x2])]))
            clear HSZA HC4
            subst x1 x2
            have keyB : (¬ dt < 1 ∧ ¬ 50 < dt) ∨ (dt = 0 ∧ dp = 0) ∨ (dt < 1 ∧ dt ≠ 0) ∨ (50 < dt) ∨ (dt = 0 ∧ dp ≠ 0) := by omega
            have HSZB : Hid (sizedB dt 1 50 dp = (decide (¬ dt < 1 ∧ ¬ 50 < dt) || decide (dt = 0 ∧ dp = 0))) := by show _ = _; exact sized_alt _ _ _ _
            rcases keyB with ⟨x1, x2⟩ | ⟨x1, x2⟩ | ⟨x1, x2⟩ | x1 | ⟨x1, x2⟩
            · have HC5 : Hid (c = _) := hid (HC4b.out.trans (by rw [if_neg (by rw [HSZB.out]; simp [x1, x2])]))
              clear HSZB HC4b
              have HCZ : Hid (c = 0) := by show _ = _; rw [HC5.out, if_neg (fun h => HME.out h.2)]
              clear HC5
              by_cases hmp : 0 < mp
              · go_wp2_with fail
                go_ret
                exact ⟨by rw [HCZ.out]; rfl, HBR.out⟩
              · go_wp2_with fail
                go_ret
                exact ⟨by rw [HCZ.out]; rfl, HBR.out⟩
            · have HC5 : Hid (c = _) := hid (HC4b.out.trans (by rw [if_neg (by rw [HSZB.out]; simp [x1, x2])]))
              clear HSZB HC4b
              subst x1 x2
              have HCZ : Hid (c = 0) := by show _ = _; rw [HC5.out, if_neg (fun h => HME.out h.2)]
              clear HC5
              by_cases hmp : 0 < mp
              · go_wp2_with fail
                go_ret
                exact ⟨by rw [HCZ.out]; rfl, HBR.out⟩
              · go_wp2_with fail
                go_ret
                exact ⟨by rw [HCZ.out]; rfl, HBR.out⟩
            · have HCZ : Hid (c = 12) := by show _ = _; rw [HC4b.out, if_pos (by rw [HSZB.out]; simp; omega)]
              clear HSZB HC4b
              have y1 : (dt == 0) = false := by simpa using x2
              have y2 : (dt != 0) = true := by simpa using x2
              go_wp2_with fail
              go_ret
              exact ⟨by rw [HCZ.out]; rfl, HBR.out⟩
            · have HCZ : Hid (c = 12) := by show _ = _; rw [HC4b.out, if_pos (by rw [HSZB.out]; simp; omega)]
              clear HSZB HC4b
              have x0 : ¬ dt < 1 := by omega
              have y1 : (dt == 0) = false := by rw [beq_eq_false_iff_ne]; omega
              have y2 : (dt != 0) = true := by rw [bne, y1]; rfl
              go_wp2_with fail
              go_ret
              exact ⟨by rw [HCZ.out]; rfl, HBR.out⟩
            · have HCZ : Hid (c = 12) := by show _ = _; rw [HC4b.out, if_pos (by rw [HSZB.out]; simp; omega)]
              clear HSZB HC4b
              have y1 : (dp == 0) = false := by simpa using x2
              have y2 : (dp != 0) = true := by simpa using x2
              subst x1
              go_wp2_with fail
              go_ret
              exact ⟨by rw [HCZ.out]; rfl, HBR.out⟩
          · have HCZ : Hid (c = 12) := by show _ = _; rw [HC4.out, if_pos (by rw [HSZA.out]; simp; omega)]
            clear HSZA HC4
            have y1 : (as_ == 0) = false := by simpa using x2
            have y2 : (as_ != 0) = true := by simpa using x2
            go_wp2_with fail
            go_ret
            exact ⟨by rw [HCZ.out]; rfl, HBR.out⟩
          · have HCZ : Hid (c = 12) := by show _ = _; rw [HC4.out, if_pos (by rw [HSZA.out]; simp; omega)]
            clear HSZA HC4
            have x0 : ¬ as_ < 400 := by omega
            have y1 : (as_ == 0) = false := by rw [beq_eq_false_iff_ne]; omega
            have y2 : (as_ != 0) = true := by rw [bne, y1]; rfl
            go_wp2_with fail
            go_ret
            exact ⟨by rw [HCZ.out]; rfl, HBR.out⟩
          · have HCZ : Hid (c = 12) := by show _ = _; rw [HC4.out, if_pos (by rw [HSZA.out]; simp; omega)]
            clear HSZA HC4
            have y1 : (ap == 0) = false := by simpa using x2
            have y2 : (ap != 0) = true := by simpa using x2
            subst x1
            go_wp2_with fail
            go_ret
            exact ⟨by rw [HCZ.out]; rfl, HBR.out⟩
end C12
end Go.Proofs.Ytmmmaldpalhjeaa
namespace Go.Proofs.Ytmmmaldpalhjeaa
open Go.RowKit Go.Peri
namespace C12
def namesB (ns : List ByteArray) : Bool := decide (ns.length ≤ 20) && ns.all (fun s => decide (s.size ≤ 400))
theorem names_len {ns : List ByteArray} (h : namesB ns = true) : ns.length ≤ 20 := by
  unfold namesB at h
  rw [Bool.and_eq_true] at h
  exact of_decide_eq_true h.1
theorem names_long {ns : List ByteArray} {k : Nat} (hk : k < ns.length) (h : 400 < ns[k].size) : namesB ns = false := by
  rw [Bool.eq_false_iff]
  intro hc
  unfold namesB at hc
  rw [Bool.and_eq_true, List.all_eq_true] at hc
  have := of_decide_eq_true (hc.2 ns[k] (List.getElem_mem hk))
  omega
set_option maxRecDepth 100000 in
theorem names_any {p : Nat → Prop} (v : Value) (ns : List ByteArray) (r : Bool) (W : World) (h : RowsOf p sEnc 1 W v ns) (hl : ns.length ≤ 10000000000000) (hr : namesB ns = r) :
    Calls Try.prog 43 #[v] W fun e w' => e = .returned (.bool r) ∧ W = w' := by
  obtain ⟨a, cap, rfl, h2, h3, h4, h5⟩ := h
  have H5 := hid h5
  have HR := hid hr
  clear h5 h4 hr
  go_enter Try.func43, Try.ntmps43
  go_wp2_with fail
  go_loop [3] (fun i => ∃ k : Nat, k ≤ ns.length ∧ k ≤ 21 ∧ i = .int .i64 k ∧ Hid (∀ s ∈ ns.take k, s.size ≤ 400)) (fun i => ns.length - (intOf i).toNat)
  case atStart => exact ⟨0, Nat.zero_le _, by decide, rfl, hid (fun s hs => by simp at hs)⟩
  case round =>
    obtain ⟨k, hk, hk21, rfl, hno⟩ := hrel
    by_cases hk2 : k < ns.length
    · by_cases hk3 : k ≤ 20
      · obtain ⟨x, hx⟩ : ∃ x, ns[k] = x := ⟨_, rfl⟩
        obtain ⟨b, off, rfl, hc⟩ : ∃ b off, a = some ⟨b, off, none⟩ ∧ W.cell? ⟨b, off + k, none⟩ = some (.string x) := by
          rcases H5.out with h0 | ⟨b, off, h1, _, h3⟩
          · rw [h0] at hk2; simp at hk2
          · refine ⟨b, off, h1, ?_⟩
            have := h3 k hk2 0 (.string x) (by rw [hx]; rfl)
            simpa using this
        have HL : Hid (400 < x.size → r = false) := hid (fun h => by rw [← HR.out]; exact names_long hk2 (by rw [hx]; exact h))
        have HN : Hid (x.size ≤ 400 → ∀ s ∈ ns.take (k + 1), s.size ≤ 400) := hid (fun h s hs => by
          rw [List.take_succ_eq_append_getElem hk2, hx] at hs
          rcases List.mem_append.1 hs with hs | hs
          · exact hno.out s hs
          · simp at hs; rw [hs]; exact h)
        clear hx
        by_cases hx4 : 400 < x.size
        · have HF := hid (HL.out hx4)
          clear HL HN
          go_wp2_with fail
          go_ret
          exact ⟨by rw [HF.out]; rfl, rfl⟩
        · have HF := hid (HN.out (by omega))
          clear HL HN
          go_wp2_with fail
          go_round
          case rel => exact ⟨k + 1, by omega, by omega, by go_num, HF⟩
          case measure => simp [intOf]; omega
      · have HF : Hid (r = false) := by
          show _ = _
          rw [← HR.out]
          unfold namesB
          rw [decide_eq_false (by omega), Bool.false_and]
        go_wp2_with fail
        go_ret
        exact ⟨by rw [HF.out]; simp; omega, rfl⟩
    · obtain rfl : k = ns.length := by omega
      have HF : Hid (r = decide (ns.length ≤ 20)) := by
        show _ = _
        rw [← HR.out]
        unfold namesB
        have : ns.all (fun s => decide (s.size ≤ 400)) = true := by
          rw [List.all_eq_true]
          intro s hs
          exact decide_eq_true (hno.out s (by rw [List.take_length]; exact hs))
        rw [this, Bool.and_true]
      have hi : (decide ((ns.length : Int) ≤ 20)) = decide (ns.length ≤ 20) := by by_cases h : ns.length ≤ 20 <;> simp [h] <;> omega
      have HI := hid hi
      clear hi
      go_wp2_with fail
      go_ret
      exact ⟨by rw [HF.out, ← HI.out]; rfl, rfl⟩
end C12
end Go.Proofs.Ytmmmaldpalhjeaa
namespace Go.Peri
open Go.RowKit
theorem names_of_arg {w : World} {B : Nat} {v : Value} (h : Arg w B (.slice 16 .str) v) : ∃ ns : List ByteArray, RowsOf (· < B) sEnc 1 w v ns ∧ ns.length * 16 ≤ 140737488351232 ∧ (∀ s ∈ ns, s.size ≤ 140737488351232) :=
  rows_of_arg (enc := sEnc) (wf := fun s => s.size ≤ 140737488351232) (e := .str) (fun _ => rfl) (fun cs hc => by
    obtain ⟨t, e, ht⟩ := Hd.rd_str hc
    exact ⟨t, e, ht⟩) h
theorem rule_of_arg {w : World} {B : Nat} {v : Value} (h : Arg w B Rl.ty v) : ∃ r : Rl, v = .agg #[.int .i64 r.rank, .slice r.pa r.preds.length r.pcap, .string r.target, .int .i64 r.ap, .int .i64 r.as_, .int .i64 r.dp, .int .i64 r.dt, .int .i64 r.mp, .string r.mirror, .int .i64 r.sample] ∧ r.Wf w B := by
  obtain ⟨cs, rfl, h⟩ : ∃ cs, v = .agg cs ∧ Rd w B Rl.ty cs.toList := h
  obtain ⟨r, e, hw⟩ := Rl.of_rd h
  refine ⟨r, ?_, hw⟩
  congr 1
  exact Array.toList_inj.1 e
end Go.Peri
namespace Go.Proofs.Ytmmmaldpalhjeaa
open Go.RowKit Go.Peri
namespace C12
set_option maxRecDepth 100000 in
set_option maxHeartbeats 4000000 in
theorem checks_walk (K : Known) (x : Rl) (ns : List ByteArray) (vn : Value) (W : World) (hx : x.Wf W W.heap.size) (hn : RowsOf (· < W.heap.size) sEnc 1 W vn ns) (hl : ns.length * 16 ≤ 140737488351232) :
    Calls Try.prog 9 #[.agg #[.int .i64 x.rank, .slice x.pa x.preds.length x.pcap, .string x.target, .int .i64 x.ap, .int .i64 x.as_, .int .i64 x.dp, .int .i64 x.dt, .int .i64 x.mp, .string x.mirror, .int .i64 x.sample], vn] W fun e w' => e = .returned (.bool true) ∧ Below W.heap.size W w' := by
  have HK := hid K
  obtain ⟨q1, hq1⟩ : ∃ q, Prd.few x.preds = q := ⟨_, rfl⟩
  obtain ⟨q2, hq2⟩ : ∃ q, namesB ns = q := ⟨_, rfl⟩
  obtain ⟨c, hc⟩ : ∃ c, checkR x.rank x.preds x.target x.ap x.as_ x.dp x.dt x.mp x.mirror x.sample ns = c := ⟨_, rfl⟩
  have hpl := hx.len
  have HF := hid (fun w' (hb : Below W.heap.size W w') => C11.few_any (p := (· < W.heap.size)) (.slice x.pa x.preds.length x.pcap) x.preds q1 w' (hx.rows.below hb (fun _ h => h)) (fun b h => Nat.lt_of_lt_of_le h hb.size) hx.preds (by omega) hq1)
  have HN := hid (fun w' (hb : Below W.heap.size W w') => names_any vn ns q2 w' (hn.below hb (fun _ h => h)) (by omega) hq2)
  have HP1 : Hid (q1 = true → x.preds.length ≤ 1000000000) := hid (fun e => by subst e; have := Prd.few_len hq1; omega)
  have HL1 : Hid (q2 = true → ns.length ≤ 20) := hid (fun e => by subst e; exact names_len hq2)
  have HC1 := hid (fun w' (hb : Below W.heap.size W w') (hp : x.preds.length ≤ 1000000000) (hl : ns.length ≤ 20) => check_any x.rank x.pa x.pcap x.preds x.target x.ap x.as_ x.dp x.dt x.mp x.mirror x.sample ns vn c w' ((hx.rows.below hb (fun _ h => h)).imp (fun b h => Nat.lt_of_lt_of_le h hb.size)) hx.preds hp ((hn.below hb (fun _ h => h)).imp (fun b h => Nat.lt_of_lt_of_le h hb.size)) (by omega) hc)
  have HC2 := hid (fun w' (hb : Below W.heap.size W w') (hp : x.preds.length ≤ 1000000000) (hl : ns.length ≤ 20) => rcheck_any x.rank x.pa x.pcap x.preds x.target x.ap x.as_ x.dp x.dt x.mp x.mirror x.sample ns vn c w' ((hx.rows.below hb (fun _ h => h)).imp (fun b h => Nat.lt_of_lt_of_le h hb.size)) hx.preds hp ((hn.below hb (fun _ h => h)).imp (fun b h => Nat.lt_of_lt_of_le h hb.size)) (by omega) hc)
  obtain ⟨na, ncap, rfl⟩ := hn.form
  have ht := hx.target
  have hm := hx.mirror
  clear hq1 hq2 hc hx hn hl hpl
  go_enter Try.func9, Try.ntmps9
  go_upto_region 1 with fail
  refine wp_gen ?_
  intro w1 hw1
  have hb1 : Below W.heap.size W w1 := by rw [hw1]; go_grown
  have hk1 : Blk w1 W.heap.size #[.int .i64 x.rank, .slice x.pa x.preds.length x.pcap, .string x.target, .int .i64 x.ap, .int .i64 x.as_, .int .i64 x.dp, .int .i64 x.dt, .int .i64 x.mp, .string x.mirror, .int .i64 x.sample] 60 := by rw [hw1]; exact Blk.new _ _ _
  clear hw1
  have HB1 := hid hb1
  have HK1 := hid hk1
  have c1 : w1.cell? ⟨W.heap.size, 1, none⟩ = some (.slice x.pa x.preds.length x.pcap) := hk1.cell 1
  clear hb1 hk1
  go_wp2_with fail
  refine (HF.out _ HB1.out).mono ?_
  rintro e w2 ⟨rfl, hb2⟩
  have HB2 := hid (HB1.out.trans (hb2.mono HB1.out.size))
  have hk2 := HK1.out.later hb2
  have c2 : w2.cell? ⟨W.heap.size, 2, none⟩ = some (.string x.target) := hk2.cell 2
  have c8 : w2.cell? ⟨W.heap.size, 8, none⟩ = some (.string x.mirror) := hk2.cell 8
  have HK2 := hid hk2
  clear hb2 hk2 c1
  cases q1
  · clear c2 c8
    go_wp2_with fail
    refine (HK.out _).mono ?_
    rintro e w3 ⟨rfl, hb3⟩
    have HB3 := hid (HB2.out.trans (hb3.mono HB2.out.size))
    clear hb3
    go_wp2_with fail
    go_ret
    exact ⟨rfl, HB3.out⟩
  have HP := hid (HP1.out rfl)
  clear HP1
  go_wp2_with fail
  refine (HN.out _ HB2.out).mono ?_
  rintro e w3 ⟨rfl, rfl⟩
  cases q2
  · clear c2 c8
    go_wp2_with fail
    refine (HK.out _).mono ?_
    rintro e w3 ⟨rfl, hb3⟩
    have HB3 := hid (HB2.out.trans (hb3.mono HB2.out.size))
    clear hb3
    go_wp2_with fail
    go_ret
    exact ⟨rfl, HB3.out⟩
  have HL := hid (HL1.out rfl)
  clear HL1
  by_cases h4 : 400 < x.target.size + x.mirror.size
  · have h5 : (400 : Int) < (x.target.size : Int) + (x.mirror.size : Int) := by omega
    go_wp2_with fail
    refine (HK.out _).mono ?_
    rintro e w3 ⟨rfl, hb3⟩
    have HB3 := hid (HB2.out.trans (hb3.mono HB2.out.size))
    clear hb3
    go_wp2_with fail
    go_ret
    exact ⟨rfl, HB3.out⟩
  have h5 : ¬ (400 : Int) < (x.target.size : Int) + (x.mirror.size : Int) := by omega
  have d0 : w2.cell? ⟨W.heap.size, 0, none⟩ = some (.int .i64 x.rank) := HK2.out.cell 0
  have d1 : w2.cell? ⟨W.heap.size, 1, none⟩ = some (.slice x.pa x.preds.length x.pcap) := HK2.out.cell 1
  have d3 : w2.cell? ⟨W.heap.size, 3, none⟩ = some (.int .i64 x.ap) := HK2.out.cell 3
  have d4 : w2.cell? ⟨W.heap.size, 4, none⟩ = some (.int .i64 x.as_) := HK2.out.cell 4
  have d5 : w2.cell? ⟨W.heap.size, 5, none⟩ = some (.int .i64 x.dp) := HK2.out.cell 5
  have d6 : w2.cell? ⟨W.heap.size, 6, none⟩ = some (.int .i64 x.dt) := HK2.out.cell 6
  have d7 : w2.cell? ⟨W.heap.size, 7, none⟩ = some (.int .i64 x.mp) := HK2.out.cell 7
  have d9 : w2.cell? ⟨W.heap.size, 9, none⟩ = some (.int .i64 x.sample) := HK2.out.cell 9
  have hlt := HK2.out.lt
  have X1 : Hid (∀ z : BW w2, Calls Try.prog 45 #[.agg #[.int .i64 x.rank, .slice x.pa x.preds.length x.pcap, .string x.target, .int .i64 x.ap, .int .i64 x.as_, .int .i64 x.dp, .int .i64 x.dt, .int .i64 x.mp, .string x.mirror, .int .i64 x.sample], .slice na ns.length ncap] z.val fun e w' => e = .returned (.int .i64 c) ∧ Below z.val.heap.size z.val w') := hid (fun z => HC1.out z.val (HB2.out.trans (z.prop.mono HB2.out.size)) HP.out HL.out)
  have X2 : Hid (∀ z : BW w2, Calls Try.prog 46 #[.agg #[.int .i64 x.rank, .slice x.pa x.preds.length x.pcap, .string x.target, .int .i64 x.ap, .int .i64 x.as_, .int .i64 x.dp, .int .i64 x.dt, .int .i64 x.mp, .string x.mirror, .int .i64 x.sample], .slice na ns.length ncap] z.val fun e w' => e = .returned (.int .i64 c) ∧ Below z.val.heap.size z.val w') := hid (fun z => HC2.out z.val (HB2.out.trans (z.prop.mono HB2.out.size)) HP.out HL.out)
  have hcc : (c == c) = true := by simp
  clear HC1 HC2 HF HN HK1 HP HL
  go_wp2_with fail
  refine wp_region_bw (by kernel_rfl) (by kernel_rfl) ?_
  repeat (go_big_quiet_step ((first | (go_at_call 45; exact bw_call (X1.out _)) | (go_at_call 46; exact bw_call (X2.out _)) | (go_at_call 44; exact bw_call (HK.out _)))))
  refine wpQuiet_nil ?_
  rintro w3 ⟨⟨_, hb3⟩, rfl⟩
  have HB3 := hid (HB2.out.trans (hb3.mono HB2.out.size))
  clear hb3
  go_wp2_with fail
  go_ret
  exact ⟨rfl, HB3.out⟩
end C12
end Go.Proofs.Ytmmmaldpalhjeaa
