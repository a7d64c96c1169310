/- The law ExportQuiet walked; no condition. -/
import Derived.Test.YtcohcanakicmpaaS27
namespace Go.Proofs.Ytcohcanakicmpaa
open Go.RowKit Go.Peri
open Sq (rest ixQ atQ total bk benc)
open Gen (owns_le owns_below owns_at)
open C26 (clk Fresh)
open C25 (BufIs roomR own Moved takeN)
open C10 (Okb bW BrQ)
open C09 (chS)
theorem spans_of_arg {w : World} {B : Nat} {v : Value} (h : Arg w B (.slice 96 Sp.ty) v) : ∃ l : List Sp, RowsOf (· < B) Sp.enc 11 w v l ∧ l.length * 96 ≤ 140737488351232 ∧ ∀ x ∈ l, x.Wf :=
  rows_of_arg (enc := Sp.enc) (fun _ => rfl) (fun _ h => Sp.of_rd h) h
namespace C27
theorem sp_cells {y : Sp} {w : World} {b o : Nat} (h : ∀ j u, y.enc[j]? = some u → w.cell? ⟨b, o + j, none⟩ = some u) : w.cell? ⟨b, o, none⟩ = some (.int .u64 y.hi) ∧ w.cell? ⟨b, o + 1, none⟩ = some (.int .u64 y.lo) ∧ w.cell? ⟨b, o + 2, none⟩ = some (.int .u64 y.id) ∧ w.cell? ⟨b, o + 3, none⟩ = some (.int .u64 y.up) ∧ w.cell? ⟨b, o + 4, none⟩ = some (.string y.name) ∧ w.cell? ⟨b, o + 5, none⟩ = some (.int .i64 y.status) ∧ w.cell? ⟨b, o + 6, none⟩ = some (.int .i64 y.seq) ∧ w.cell? ⟨b, o + 7, none⟩ = some (.int .i64 y.kids) ∧ w.cell? ⟨b, o + 8, none⟩ = some (.bool y.shadow) ∧ w.cell? ⟨b, o + 9, none⟩ = some (.int .i64 y.start) ∧ w.cell? ⟨b, o + 10, none⟩ = some (.int .i64 y.stop) :=
  ⟨h 0 _ rfl, h 1 _ rfl, h 2 _ rfl, h 3 _ rfl, h 4 _ rfl, h 5 _ rfl, h 6 _ rfl, h 7 _ rfl, h 8 _ rfl, h 9 _ rfl, h 10 _ rfl⟩
set_option maxRecDepth 100000 in
set_option maxHeartbeats 64000000 in
theorem quiet_walk (c : Lim) (v : Value) (l : List Sp) (frm : Int) (W : World) (hv : RowsOf (· < W.heap.size) Sp.enc 11 W v l) (hw : ∀ y ∈ l, y.Wf) :
    Calls Try.prog 4 #[.agg #[.int .i64 c.a0, .int .i64 c.a1, .int .i64 c.a2, .int .i64 c.buf, .int .i64 c.batch, .int .i64 c.every, .int .i64 c.flight, .int .i64 c.retry, .int .i64 c.tries, .int .i64 c.a9, .int .i64 c.a10, .slice c.ida c.idn c.idc], v, .int .i64 frm] W fun e w' => e = .returned (.bool true) ∧ Below W.heap.size W w' := by
  obtain ⟨a, cap, rfl, -, -, -, hcell⟩ := hv
  have HC := hid hcell
  have HW := hid hw
  have XK := hid known_any
  obtain ⟨n, hn⟩ : ∃ n, n = l.length := ⟨_, rfl⟩
  have HN := hid hn
  rw [← hn]
  have XRC : Hid (∀ w, Calls Try.prog 5 #[.agg #[.int .i64 c.a0, .int .i64 c.a1, .int .i64 c.a2, .int .i64 c.buf, .int .i64 c.batch, .int .i64 c.every, .int .i64 c.flight, .int .i64 c.retry, .int .i64 c.tries, .int .i64 c.a9, .int .i64 c.a10, .slice c.ida c.idn c.idc]] w fun e w' => e = .returned (.int .i64 (chL c)) ∧ Below w.heap.size w w') := hid (fun w => rcheck_any c w)
  have HOK : Hid (chL c = 0 → c.Ok) := hid ok_of
  clear hcell hw hn
  go_enter Try.func4, Try.ntmps4
  go_upto_region 1 with fail
  refine wp_genS ?_
  intro w1 hw1
  have hb2 : Below W.heap.size W w1 := by rw [hw1]; go_grown
  have hk1 : Blk w1 W.heap.size #[.int .i64 c.a0, .int .i64 c.a1, .int .i64 c.a2, .int .i64 c.buf, .int .i64 c.batch, .int .i64 c.every, .int .i64 c.flight, .int .i64 c.retry, .int .i64 c.tries, .int .i64 c.a9, .int .i64 c.a10, .slice c.ida c.idn c.idc] 24 := by rw [hw1]; exact Blk.new _ _ _
  have HB1 := hid hb2
  have HK1 := hid hk1
  obtain ⟨e0, e1, e2, e3, e4, e5, e6, e7, e8, e9, e10, e11⟩ := blk12 hk1
  clear hw1 hb2 hk1
  go_wp2_with fail
  refine (XRC.out _).mono ?_
  rintro e w2 ⟨rfl, hb2⟩
  have HB2 := hid (HB1.out.trans (hb2.mono HB1.out.size))
  have HK2 := hid (HK1.out.later hb2)
  clear hb2 e0 e1 e2 e3 e4 e5 e6 e7 e8 e9 e10 e11 HB1 HK1
  by_cases hcl : ¬ chL c = 0
  · generalize chL c = r at hcl ⊢
    go_wp2_with fail
    refine (XK.out _).mono ?_
    rintro e w3 ⟨rfl, hb3⟩
    go_wp2_with fail
    go_ret
    exact ⟨rfl, HB2.out.trans (hb3.mono HB2.out.size)⟩
  have hcl := Decidable.not_not.1 hcl
  have OK := hid (HOK.out hcl)
  rw [hcl]
  clear hcl
  by_cases hn60 : 60 < n
  · have hb1 : (60 : Int) < (n : Int) := by omega
    go_wp2_with fail
    refine (XK.out _).mono ?_
    rintro e w3 ⟨rfl, hb3⟩
    go_wp2_with fail
    go_ret
    exact ⟨rfl, HB2.out.trans (hb3.mono HB2.out.size)⟩
  have hb1 : ¬ (60 : Int) < (n : Int) := by omega
  by_cases hf0 : frm < 0
  · skip
    go_wp2_with fail
    refine (XK.out _).mono ?_
    rintro e w3 ⟨rfl, hb3⟩
    go_wp2_with fail
    go_ret
    exact ⟨rfl, HB2.out.trans (hb3.mono HB2.out.size)⟩
  by_cases hf1 : 1000000 < frm
  · skip
    go_wp2_with fail
    refine (XK.out _).mono ?_
    rintro e w3 ⟨rfl, hb3⟩
    go_wp2_with fail
    go_ret
    exact ⟨rfl, HB2.out.trans (hb3.mono HB2.out.size)⟩
  obtain ⟨e0, e1, e2, e3, e4, e5, e6, e7, e8, e9, e10, e11⟩ := blk12 HK2.out
  have hl2 := HK2.out.lt
  have XN : Hid (Calls Try.prog 7 #[.int .i64 0, .agg #[.int .i64 c.a0, .int .i64 c.a1, .int .i64 c.a2, .int .i64 c.buf, .int .i64 c.batch, .int .i64 c.every, .int .i64 c.flight, .int .i64 c.retry, .int .i64 c.tries, .int .i64 c.a9, .int .i64 c.a10, .slice c.ida c.idn c.idc]] w2 (NewQ w2 0 c)) := hid (new_any 0 c OK.out w2 (by decide) (by decide))
  go_wp2_with fail
  refine XN.out.mono ?_
  rintro e w0 ⟨gB, gS, gX, rfl, hge, hb3, hx0⟩
  have HB0 := hid (HB2.out.trans (hb3.mono HB2.out.size))
  have HQ0 := hid (qk_start hx0.out HB0.out (HK2.out.later hb3) (by omega))
  have HP0 := hid (pi0 OK.out)
  clear hb3 hx0 hge hl2 e0 e1 e2 e3 e4 e5 e6 e7 e8 e9 e10 e11 XN HK2 HB2 XRC HOK
  go_wp2_with fail
  go_loopw [9, 11] (fun s9 s11 wr => ∃ (i : Nat) (x : Xs) (h : Option Nat) (put : List Sp) (pv : Value), i ≤ n ∧ s11 = .int .i64 i ∧ pv = s9 ∧ Hid (QK W w0 wr gX gS gB h c x put [] pv (.slice none 0 0) ∧ PI c x i put)) (fun _ s11 _ => n - (intOf s11).toNat)
  case atStart => exact ⟨0, x0, none, [], .slice none 0 0, Nat.zero_le _, rfl, rfl, hid ⟨HQ0.out, HP0.out⟩⟩
  case round =>
    obtain ⟨i, x, h, put, pv, hi, rfl, rfl, HR⟩ := hrel
    obtain ⟨wo, hwo⟩ : ∃ w, w = wr := ⟨_, rfl⟩
    subst hwo
    clear HQ0 HP0
    by_cases hge : n ≤ i
    · obtain rfl : i = n := by omega
      have OKb := hid OK.out
      obtain ⟨hbu1, hbu2⟩ := OK.out.buf
      obtain ⟨hev1, hev2⟩ := OK.out.every
      have hn0 : ((x.wait.length : Nat) : Int) ≤ c.buf := by
        obtain ⟨b, s, h2⟩ := HR.out.2.qi.inv
        exact h2.room
      have HPL : Hid (put.length ≤ 64) := hid (by
        have h1 := HR.out.2.qi.cat
        rw [List.nil_append] at h1
        rw [← h1]; omega)
      obtain ⟨n0, hn0e⟩ : ∃ o, x.wait.length = o := ⟨_, rfl⟩
      have HPS : Hid (Prog c x frm 0 n0) := hid (by rw [← hn0e]; exact prog_start c x frm HR.out.2.last)
      rw [hn0e] at hn0
      have HN0 := hid hn0
      clear hn0 hn0e
      go_wp2_with fail
      go_loopw [10, 12] (fun s10 s12 wr => ∃ (t tt : Nat) (x' : Xs) (h' : Option Nat) (got : List Sp) (gv : Value), Hid (tt = t + 1) ∧ tt ≤ 200 ∧ Hid ((t : Int) ≤ c.buf + c.every + 1) ∧ s12 = .int .i64 tt ∧ gv = s10 ∧ Hid (QK W w0 wr gX gS gB h' c x' put got pv gv ∧ QI c x' (i + 2 * t) put got ∧ Prog c x' frm t n0)) (fun _ s12 _ => 300 - (intOf s12).toNat)
      case atStart => exact ⟨0, 1, x, h, [], .slice none 0 0, hid rfl, by omega, hid (by omega), rfl, rfl, hid ⟨HR.out.1, HR.out.2.qi, HPS.out⟩⟩
      case round =>
        obtain ⟨t, tt, x', h', got, gv, HTT, htt, HTL, rfl, rfl, HZ⟩ := hrel
        obtain ⟨wa, hwa⟩ : ∃ w, w = wr := ⟨_, rfl⟩
        subst hwa
        clear HR HPS
        obtain ⟨e0, e1, e2, e3, e4, e5, e6, e7, e8, e9, e10, e11⟩ := blk12 HZ.out.1.box
        have hlW := HZ.out.1.box.lt
        by_cases hge : c.buf + c.every + 1 < (tt : Int)
        · skip
          have hwt : x'.wait = [] := prog_end HN0.out (by have := HTT.out; omega) OK.out HZ.out.2.2
          have hgp : got = put := by
            have h1 := HZ.out.2.1.cat
            rw [hwt, List.append_nil] at h1
            exact h1
          subst hgp
          have hit : i + 2 * t ≤ 900 := by have := HTT.out; have := HTL.out; omega
          obtain ⟨bI, sI, hinv⟩ := HZ.out.2.1.inv
          have HBD := hid (hinv.bd (by omega))
          obtain ⟨ng, hng⟩ : ∃ o, got.length = o := ⟨_, rfl⟩
          have hac := HZ.out.2.1.acked
          have hway := HZ.out.2.1.way
          have XTL : Hid (Calls Try.prog 13 #[.pointer (some ⟨gX, 0, none⟩)] wa fun e w' => ∃ v0 v5 v6 : Int, e = .returned (.agg #[.int .i64 v0, .int .i64 0, .int .i64 0, .int .i64 0, .int .i64 ng, .int .i64 v5, .int .i64 v6]) ∧ Below wa.heap.size wa w') := hid ((tally_any gX gS gB h' 0 c x' wa HZ.out.1.ex HBD.out).mono (by
            rintro e w' ⟨rfl, hb⟩
            refine ⟨begunX x', x'.lost, x'.given, ?_, hb⟩
            rw [hwt, hway, hac, hng]
            rfl))
          have XSM : Hid (∀ w', Below wa.heap.size wa w' → Calls Try.prog 15 #[gv, pv] w' fun e w'' => e = .returned (.bool true) ∧ Below w'.heap.size w' w'') := hid (fun w' hb => by
            have hq := HZ.out.1.later hb
            exact C25.same_list gv pv got w' ⟨_, fun b h => h.2, RowsOf.of_owns (enc := Sp.enc) Sp.enc_length hq.grow⟩ ⟨_, fun b h => h.2, RowsOf.of_owns (enc := Sp.enc) Sp.enc_length hq.prow⟩ (by
              have h1 := hinv.sum
              have h2 := hinv.bi
              have h3 := hinv.lost
              omega))
          have XST : Hid (∀ w', Below wa.heap.size wa w' → Calls Try.prog 10 #[.pointer (some ⟨gX, 0, none⟩), .int .i64 (frm + 2000000)] w' fun e w'' => ∃ ao co, e = .returned (.slice ao 0 co) ∧ Below W.heap.size W w'') := hid (fun w' hb => by
            have hq := HZ.out.1.later hb
            have hcl : clk (frm + 2000000) = frm + 2000000 := by unfold clk; omega
            have hrd : readyB c x' (frm + 2000000) = false := by
              unfold readyB
              rw [hwt]
              rfl
            have hst := step_no (c := c) hway hrd
            refine (tick_any gX gS gB h' 0 c x' (frm + 2000000) w' hq.ex HBD.out ?_ ?_).mono ?_
            · rw [hcl, hst]; simp
            · rw [hcl, hst]; simp
            · rintro e w'' ⟨v, rfl, ho, hq2⟩
              rw [hcl, hst] at hq2
              obtain ⟨ao, co, rfl, -⟩ := hq2.out.2
              exact ⟨ao, co, rfl, (hq.step ho (.inl rfl) hq2.out.1).below⟩)
          obtain ⟨pa, pc, rfl⟩ := owns_form HZ.out.1.prow
          rw [hng] at XSM ⊢
          have HBW := hid HZ.out.1.below
          clear hwt hinv hac hway hng HZ
          go_wp2_with fail
          refine XTL.out.mono ?_
          rintro e w5 ⟨v0, v5, v6, rfl, hb5⟩
          have HB5 := hid hb5
          clear hb5 XTL e0 e1 e2 e3 e4 e5 e6 e7 e8 e9 e10 e11
          go_upto_region 28 with fail
          refine wp_genS ?_
          intro w6 hw6
          have hb6 : Below w5.heap.size w5 w6 := by rw [hw6]; go_grown
          have hk6 : Blk w6 w5.heap.size #[.int .i64 v0, .int .i64 0, .int .i64 0, .int .i64 0, .int .i64 ng, .int .i64 v5, .int .i64 v6] 50 := by rw [hw6]; exact Blk.new _ _ _
          have HB6 := hid (HB5.out.trans (hb6.mono HB5.out.size))
          have HK6 := hid hk6
          clear hw6 hb6 hk6
          go_wp2_with fail
          refine (XSM.out _ HB6.out).mono ?_
          rintro e w7 ⟨rfl, hb7⟩
          have HB7 := hid (HB6.out.trans (hb7.mono HB6.out.size))
          obtain ⟨z0, z1, z2, z3, z4, z5, z6⟩ := blk7 (HK6.out.later hb7)
          have hl7 := (HK6.out.later hb7).lt
          clear hb7
          go_wp2_with fail
          refine (XST.out _ HB7.out).mono ?_
          rintro e w8 ⟨ao, co, rfl, hb8⟩
          have HB8 := hid hb8
          clear hb8
          go_wp2_with fail
          refine (XK.out _).mono ?_
          rintro e w9 ⟨rfl, hb9⟩
          go_wp2_with fail
          go_ret
          exact ⟨rfl, HB8.out.trans (hb9.mono HB8.out.size)⟩
        have hle : (tt : Int) ≤ c.buf + c.every + 1 := by omega
        clear hge
        have hfr : 0 ≤ frm ∧ frm ≤ 1000000 := by omega
        have HCLK : Hid (clk (frm + (tt : Int)) = frm + (tt : Int)) := hid (by unfold clk; omega)
        have HNOW : Hid (frm + (tt : Int) = frm + ((t + 1 : Nat) : Int)) := hid (by rw [HTT.out])
        have HRG : Hid (0 ≤ frm + (tt : Int) ∧ frm + (tt : Int) ≤ 1099511627776) := hid (by omega)
        have hit : i + 2 * t ≤ 900 := by have := HTT.out; omega
        by_cases hr : readyB c x' (frm + (tt : Int)) = true
        · skip
          have HRD := hid hr
          clear hr
          obtain ⟨tk, htk⟩ : ∃ o, takenX c x' = o := ⟨_, rfl⟩
          obtain ⟨nx, hnx⟩ : ∃ o, x'.next = o := ⟨_, rfl⟩
          have hst : stepX 0 c x' (frm + (tt : Int)) = (freshX 0 c x' (frm + (tt : Int)), [(0, (nx : Int), tk)]) := by rw [step_yes (c := c) HZ.out.2.1.way HRD.out, htk, hnx]
          have HINV : Hid (∃ b s, Inv c x' (i + 2 * t) b s) := hid HZ.out.2.1.inv
          have HOKB : Hid (Okb 0 nx tk) := hid (by
            obtain ⟨b, s, hinv⟩ := HINV.out
            obtain ⟨q, h1, h2, h3, _⟩ := outs_ok hinv (by omega) (frm + (tt : Int)) (0, (nx : Int), tk) (by rw [hst]; simp)
            have h4 : (nx : Int) = q := h2
            have h5 : nx = q := by omega
            rw [h5]; exact h3)
          have HBD1 : Hid (Bd (freshX 0 c x' (frm + (tt : Int)))) := hid (by
            obtain ⟨b, s, hinv⟩ := HINV.out
            have h1 := inv_tick hinv (frm + (tt : Int)) HRG.out
            rw [hst] at h1
            exact h1.bd (by omega))
          have HQA : Hid (ackN (freshX 0 c x' (frm + (tt : Int))) nx = tk.length ∧ ackX (freshX 0 c x' (frm + (tt : Int))) nx = quietX c x' (frm + (tt : Int)) ∧ (quietX c x' (frm + (tt : Int))).way = []) := hid (by
            obtain ⟨a1, a2, _⟩ := quiet_ack (c := c) HZ.out.2.1.way (frm + (tt : Int))
            rw [hnx, htk] at a1
            refine ⟨a1, ?_, a2⟩
            unfold quietX
            rw [hnx])
          have XT2 : Hid (Calls Try.prog 10 #[.pointer (some ⟨gX, 0, none⟩), .int .i64 (frm + (tt : Int))] wa fun e w' => ∃ ao co, e = .returned (.slice ao 1 co) ∧ Hid (QK W w0 w' gX gS gB h' c (freshX 0 c x' (frm + (tt : Int))) put got pv gv ∧ RowsOf (Fresh wa.heap.size w') sEnc 1 w' (.slice ao 1 co) [bW 0 nx tk])) := hid (by
            obtain ⟨b, s, hinv⟩ := HINV.out
            refine (tick_any gX gS gB h' 0 c x' (frm + (tt : Int)) wa HZ.out.1.ex (hinv.bd (by omega)) ?_ ?_).mono ?_
            · rw [HCLK.out, hst]
              intro b hb
              simp only [List.mem_cons, List.not_mem_nil, or_false] at hb
              subst hb
              refine ⟨by show (0 : Int) ≤ 0; omega, by show (0 : Int) ≤ (nx : Int); omega, ?_⟩
              show Okb (0 : Int).toNat ((nx : Int)).toNat tk
              rw [Int.toNat_natCast]
              exact HOKB.out
            · rw [HCLK.out, hst]; exact Nat.le_of_ble_eq_true rfl
            · rintro e w' ⟨v, rfl, ho, hq⟩
              rw [HCLK.out, hst] at hq
              have hr2 := hq.out.2
              have e1 : ([(0, (nx : Int), tk)] : List (Int × Int × List Sp)).map outB = [bW 0 nx tk] := by
                show [bW (0 : Int).toNat ((nx : Int)).toNat tk] = _
                rw [Int.toNat_natCast]
                rfl
              rw [e1] at hr2
              obtain ⟨ao, co, rfl, hz⟩ := hr2
              exact ⟨ao, co, rfl, hid ⟨HZ.out.1.step ho (.inl rfl) hq.out.1, ⟨ao, co, rfl, hz⟩⟩⟩)
          have HTK := hid htk
          clear hst htk hnx
          go_wp2_with fail
          refine XT2.out.mono ?_
          rintro e w4 ⟨ao, co, rfl, HQ4⟩
          clear XT2 e0 e1 e2 e3 e4 e5 e6 e7 e8 e9 e10 e11 hlW
          go_wp2_with fail
          go_loopw [10, 14] (fun s10 s14 wq => ∃ (k : Nat) (gu : Value), k ≤ 1 ∧ s14 = .int .i64 k ∧ gu = s10 ∧ Hid ((k = 0 ∧ gu = gv ∧ wq = w4) ∨ (k = 1 ∧ QK W w0 wq gX gS gB h' c (quietX c x' (frm + (tt : Int))) put (got ++ tk) pv gu))) (fun _ s14 _ => 1 - (intOf s14).toNat)
          case atStart => exact ⟨0, gv, by omega, rfl, rfl, hid (.inl ⟨rfl, rfl, rfl⟩)⟩
          case round =>
            obtain ⟨k, gu, hk, rfl, rfl, HK⟩ := hrel
            by_cases hk1 : k = 1
            · subst hk1
              have HQ5 : Hid (QK W w0 wr gX gS gB h' c (quietX c x' (frm + (tt : Int))) put (got ++ tk) pv gu) := hid (by
                rcases HK.out with ⟨h1, _⟩ | ⟨_, h2⟩
                · omega
                · exact h2)
              clear HK HQ4
              go_wp2_with fail
              go_roundw
              case rel =>
                refine ⟨t + 1, tt + 1, quietX c x' (frm + (tt : Int)), h', got ++ tk, gu, hid (by rw [HTT.out]), by omega, hid (by have := HTT.out; omega), by go_num, rfl, hid ⟨HQ5.out, ?_, ?_⟩⟩
                · have h1 := qi_yes HZ.out.2.1 HRG.out HRD.out
                  rw [HTK.out] at h1
                  exact h1
                · have h1 := prog_yes (frm := frm) OK.out HZ.out.2.1.way HZ.out.2.2 (by rw [← HNOW.out]; exact HRD.out)
                  rw [← HNOW.out] at h1
                  exact h1
              case measure => simp [intOf]; omega
            obtain rfl : k = 0 := by omega
            obtain ⟨hgu, hwq⟩ : gu = gv ∧ wr = w4 := by
              rcases HK.out with ⟨_, h1, h2⟩ | ⟨h1, _⟩
              · exact ⟨h1, h2⟩
              · omega
            subst hgu
            subst hwq
            clear HK hk1
            have hrow := HQ4.out.2
            obtain ⟨ao', co', eao, -, -, -, hcl2⟩ := hrow
            cases eao
            obtain ⟨bo, oo, rfl, hpo, hco⟩ := hcl2.resolve_left (by simp)
            have c0 : wr.cell? ⟨bo, oo, none⟩ = some (.string (bW 0 nx tk)) := by
              have h1 := hco 0 (by simp) 0 (.string (bW 0 nx tk)) (by simp [sEnc])
              simpa using h1
            have hlbo : bo < wr.heap.size := hpo.2
            obtain ⟨nl, hnl⟩ : ∃ o, tk.length = o := ⟨_, rfl⟩
            have XR : Hid (Calls Try.prog 11 #[.string (bW 0 nx tk)] wr fun e w' => ∃ a c, e = .returned (.tuple #[.agg #[.int .i64 0, .int .i64 nx, .slice a nl c], .int .i64 0]) ∧ Below wr.heap.size wr w' ∧ Hid (RowsOf (fun b => wr.heap.size ≤ b ∧ b < w'.heap.size) Sp.enc 11 w' (.slice a nl c) tk)) := hid (by
              rw [← hnl]
              exact (C10.rbread_any 0 nx tk wr HOKB.out).mono (by
                rintro e w' ⟨a, c, rfl, hb, hq⟩
                exact ⟨a, c, rfl, hb, hq⟩))
            have hnl16 : nl ≤ 16 := by rw [← hnl]; exact HOKB.out.len.2
            have HNL := hid hnl
            generalize bW 0 nx tk = bb at c0 XR
            obtain ⟨ga, gc, rfl⟩ := owns_form HQ4.out.1.grow
            clear hnl hcl2 hpo hco
            go_wp2_with fail
            refine XR.out.mono ?_
            rintro e w5 ⟨ar, cr, rfl, hb5, HRW⟩
            have HB5 := hid hb5
            clear hb5 XR c0
            go_upto_region 24 with fail
            refine wp_genS ?_
            intro w6 hw6
            have hb6 : Below w5.heap.size w5 w6 := by rw [hw6]; go_grown
            have hk6 : Blk w6 w5.heap.size #[.int .i64 0, .int .i64 nx, .slice ar nl cr] 45 := by rw [hw6]; exact Blk.new _ _ _
            have HB6 := hid (HB5.out.trans (hb6.mono HB5.out.size))
            have HQ6 := hid (HQ4.out.1.later HB6.out)
            have HRW6 := hid (HRW.out.below hb6 (fun b hb => hb.2))
            have HBK := hid hk6
            have hl56 := hk6.lt
            have hs45 : wr.heap.size ≤ w5.heap.size := HB5.out.size
            clear hw6 hb6 hk6
            have HNO : Hid (∀ b ∈ gS :: own gB h', b < wr.heap.size) := hid HQ4.out.1.ex.gS_lt
            have XA : Hid (∀ w', Below w6.heap.size w6 w' → Calls Try.prog 12 #[.pointer (some ⟨gX, 0, none⟩), .int .i64 nx] w' fun e w'' => e = .returned (.int .i64 nl) ∧ (w''.cell? ⟨w5.heap.size, 1, none⟩ = some (.int .i64 nx) ∧ w''.cell? ⟨w5.heap.size, 2, none⟩ = some (.slice ar nl cr)) ∧ w5.heap.size < w''.heap.size ∧ Hid (QK W w0 w'' gX gS gB h' c (quietX c x' (frm + (tt : Int))) put got pv (.slice ga got.length gc) ∧ RowsOf (fun b => wr.heap.size ≤ b ∧ b < w''.heap.size) Sp.enc 11 w'' (.slice ar nl cr) tk)) := hid (fun w' hb => by
              refine (ack_any gX gS gB h' 0 c (freshX 0 c x' (frm + (tt : Int))) nx w' (HQ6.out.later hb).ex HBD1.out).mono ?_
              rintro e w'' ⟨rfl, ho, hx⟩
              have hbk := (HBK.out.later hb).only ho (fun hm => by have := HNO.out _ hm; omega)
              refine ⟨by rw [HQA.out.1, HNL.out], ⟨hbk.cell 1, hbk.cell 2⟩, hbk.lt, hid ⟨?_, ?_⟩⟩
              · have h1 := (HQ6.out.later hb).step ho (.inl rfl) hx.out
                rw [HQA.out.2.1] at h1
                exact h1
              · have hz := hb.size
                have hz2 := ho.size
                exact ((HRW6.out.below hb (fun b hb2 => by omega)).only ho (fun b hb2 => ⟨by omega, fun hm => by have := HNO.out _ hm; omega⟩)).imp (fun b hb2 => ⟨hb2.1, by omega⟩))
            have KEEP : Hid (∀ w', Below w6.heap.size w6 w' → w'.cell? ⟨w5.heap.size, 1, none⟩ = some (.int .i64 nx) ∧ w'.cell? ⟨w5.heap.size, 2, none⟩ = some (.slice ar nl cr)) := hid (fun w' hb => ⟨(HBK.out.later hb).cell 1, (HBK.out.later hb).cell 2⟩)
            go_wp2_with fail
            refine wp_region_held_drew (S := (fun w' => w'.cell? ⟨w5.heap.size, 1, none⟩ = some (.int .i64 nx) ∧ w'.cell? ⟨w5.heap.size, 2, none⟩ = some (.slice ar nl cr))) (by kernel_rfl) (by (first | assumption | (refine KEEP.out _ ?_; (repeat' (first | assumption | (with_reducible exact Below.refl _ _) | (with_reducible refine Below.drew ?_) | (with_reducible refine Below.alloc ?_ (by first | exact Nat.le_refl _ | (exact Below.size (by assumption)) | (simp; done) | (simp; omega)) _)))))) (fun hHeld => ?_)
            refine wpAnyH_take (i := 0) (oi := ⟨_, _, _, _, _, _⟩) (v := ?_) rfl (by kernel_rfl) (by kernel_rfl) (by kernel_rfl) (fun _ _ _ h => h) (Or.inl ⟨by rfl, ?_⟩) hHeld ?_
            rotate_left
            · (intro w hSw; (try dsimp only at hSw); go_simp) <;> with_reducible rfl
            try simp only [Act.put, List.setIfInBounds_toArray, List.set_cons_zero, List.set_cons_succ]
            refine wpAnyH_take (i := 1) (oi := ⟨_, _, _, _, _, _⟩) (v := ?_) rfl (by kernel_rfl) (by kernel_rfl) (by kernel_rfl) (fun _ _ _ h => h) (Or.inl ⟨by rfl, ?_⟩) hHeld ?_
            rotate_left
            · (intro w hSw; (try dsimp only at hSw); go_simp) <;> with_reducible rfl
            try simp only [Act.put, List.setIfInBounds_toArray, List.set_cons_zero, List.set_cons_succ]
            refine wpAnyH_take (i := 2) (oi := ⟨_, _, _, _, _, _⟩) (v := ?_) rfl (by kernel_rfl) (by kernel_rfl) (by kernel_rfl) (fun _ _ _ h => h) (Or.inl ⟨by rfl, ?_⟩) hHeld ?_
            rotate_left
            · (intro w hSw; (try dsimp only at hSw); go_simp) <;> with_reducible rfl
            try simp only [Act.put, List.setIfInBounds_toArray, List.set_cons_zero, List.set_cons_succ]
            refine wpAnyH_take (i := 3) (oi := ⟨_, _, _, _, _, _⟩) (v := ?_) rfl (by kernel_rfl) (by kernel_rfl) (by kernel_rfl) (fun _ _ _ h => h) (Or.inl ⟨by rfl, ?_⟩) hHeld ?_
            rotate_left
            · (intro w hSw; (try dsimp only at hSw); go_simp) <;> with_reducible rfl
            try simp only [Act.put, List.setIfInBounds_toArray, List.set_cons_zero, List.set_cons_succ]
            refine wpAnyH_take (i := 4) (oi := ⟨_, _, _, _, _, _⟩) (v := ?_) rfl (by kernel_rfl) (by kernel_rfl) (by kernel_rfl) (fun _ _ _ h => h) (Or.inl ⟨by rfl, ?_⟩) hHeld ?_
            rotate_left
            · (intro w hSw; (try dsimp only at hSw); go_simp) <;> with_reducible rfl
            try simp only [Act.put, List.setIfInBounds_toArray, List.set_cons_zero, List.set_cons_succ]
            refine wpAnyH_take (i := 5) (oi := ⟨_, _, _, _, _, _⟩) (v := ?_) rfl (by kernel_rfl) (by kernel_rfl) (by kernel_rfl) (fun _ _ _ h => h) (Or.inl ⟨by rfl, ?_⟩) hHeld ?_
            rotate_left
            · (intro w hSw; (try dsimp only at hSw); go_simp) <;> with_reducible rfl
            try simp only [Act.put, List.setIfInBounds_toArray, List.set_cons_zero, List.set_cons_succ]
            refine wpAnyH_take (i := 7) (oi := ⟨_, _, _, _, _, _⟩) (v := ?_) rfl (by kernel_rfl) (by kernel_rfl) (by kernel_rfl) (fun _ _ _ h => h) (Or.inl ⟨by rfl, ?_⟩) hHeld ?_
            rotate_left
            · (intro w hSw; (try dsimp only at hSw); go_simp) <;> with_reducible rfl
            try simp only [Act.put, List.setIfInBounds_toArray, List.set_cons_zero, List.set_cons_succ]
            refine wpAnyH_take (i := 8) (oi := ⟨_, _, _, _, _, _⟩) (v := ?_) rfl (by kernel_rfl) (by kernel_rfl) (by kernel_rfl) (fun _ _ _ h => h) (Or.inl ⟨by rfl, ?_⟩) hHeld ?_
            rotate_left
            · (intro w hSw; (try dsimp only at hSw); go_simp) <;> with_reducible rfl
            try simp only [Act.put, List.setIfInBounds_toArray, List.set_cons_zero, List.set_cons_succ]
            refine wpAnyH_take (i := 9) (oi := ⟨_, _, _, _, _, _⟩) (v := ?_) rfl (by kernel_rfl) (by kernel_rfl) (by kernel_rfl) (fun _ _ _ h => h) (Or.inl ⟨by rfl, ?_⟩) hHeld ?_
            rotate_left
            · (intro w hSw; (try dsimp only at hSw); go_simp) <;> with_reducible rfl
            try simp only [Act.put, List.setIfInBounds_toArray, List.set_cons_zero, List.set_cons_succ]
            refine wpAnyH_ready (rs := [6]) (by kernel_rfl) (by simp) ?_
            refine AllReadyH.cons (o := ⟨_, _, _, _, _, _⟩) rfl (fun K hK => ?_) AllReadyH.nil
            clear hHeld
            go_simp
            go_at_call 12
            refine (XA.out _ (by first | assumption | exact Below.refl _ _ | exact (Below.refl _ _).drew)).mono ?_
            rintro e w7 ⟨rfl, hs7, hl7, HQ7⟩
            refine hK.out _ _ (by (first | assumption | (refine KEEP.out _ ?_; (repeat' (first | assumption | (with_reducible exact Below.refl _ _) | (with_reducible refine Below.drew ?_) | (with_reducible refine Below.alloc ?_ (by first | exact Nat.le_refl _ | (exact Below.size (by assumption)) | (simp; done) | (simp; omega)) _)))))) (fun hHeld => ?_)
            clear hK K
            try simp only [Act.put, List.setIfInBounds_toArray, List.set_cons_zero, List.set_cons_succ]
            refine wpAnyH_take (i := 10) (oi := ⟨_, _, _, _, _, _⟩) (v := ?_) rfl (by kernel_rfl) (by kernel_rfl) (by kernel_rfl) (fun _ _ _ h => h) (Or.inl ⟨by rfl, ?_⟩) hHeld ?_
            rotate_left
            · (intro w hSw; (try dsimp only at hSw); go_simp) <;> with_reducible rfl
            try simp only [Act.put, List.setIfInBounds_toArray, List.set_cons_zero, List.set_cons_succ]
            refine wpAnyH_take (i := 11) (oi := ⟨_, _, _, _, _, _⟩) (v := ?_) rfl (by kernel_rfl) (by kernel_rfl) (by kernel_rfl) (fun _ _ _ h => h) (Or.inl ⟨by rfl, ?_⟩) hHeld ?_
            rotate_left
            · (intro w hSw; (try dsimp only at hSw); go_simp) <;> with_reducible rfl
            try simp only [Act.put, List.setIfInBounds_toArray, List.set_cons_zero, List.set_cons_succ]
            refine wpAnyH_done (by kernel_rfl) ?_ _
            have hpl : got.length ≤ 64 ∧ nl ≤ 16 := by
              have h1 := HZ.out.2.1.cat
              refine ⟨?_, hnl16⟩
              have h2 := congrArg List.length h1
              rw [List.length_append] at h2
              have h3 := HPL.out
              omega
            have HROW := hid HQ7.out.1.grow
            have hw0 : w0.heap.size ≤ w7.heap.size := HQ7.out.1.sz
            have h63 : got.length + nl ≤ maxLen := by unfold maxLen; omega
            have hby : (got.length + nl) * 96 ≤ 140737488355328 := by omega
            have HCZ : Hid (Cellz (fun b => wr.heap.size ≤ b ∧ b < w7.heap.size) 11 w7 (.slice ar nl cr) nl (tk.flatMap Sp.enc)) := hid (by
              have h1 := HQ7.out.2.cellz Sp.enc_length
              rw [HNL.out] at h1
              exact h1)
            clear XA KEEP hHeld
            go_wp2_with (at_builtin; refine wpList_pushCells_at C30.elemS rfl _ _ rfl w0.heap.size (.slice ga got.length gc) got.length _ rfl HROW.out rfl HCZ.out (Sp.one tk) h63 hby hw0 ?_; intro v9 w9 hown9 ho9 hm9; have HO9 := hid ho9; have HM9 := hid hm9; have HW9 := hid hown9; clear hown9 ho9 hm9)
            go_roundw
            case rel =>
              refine ⟨1, v9, by omega, by go_num, rfl, hid (.inr ⟨rfl, HQ7.out.1.onGot HQA.out.2.2 HO9.out HM9.out ?_⟩)⟩
              have h1 := HW9.out
              rw [List.flatMap_append, List.length_append, HNL.out]
              exact h1
            case measure => simp [intOf]
        have hr : readyB c x' (frm + (tt : Int)) = false := by simpa using hr
        have HRD := hid hr
        clear hr
        have XT2 : Hid (Calls Try.prog 10 #[.pointer (some ⟨gX, 0, none⟩), .int .i64 (frm + (tt : Int))] wa fun e w' => ∃ ao co, e = .returned (.slice ao 0 co) ∧ Hid (QK W w0 w' gX gS gB h' c x' put got pv gv)) := hid (by
          have hst := step_no (c := c) HZ.out.2.1.way HRD.out
          obtain ⟨b, s, hinv⟩ := HZ.out.2.1.inv
          refine (tick_any gX gS gB h' 0 c x' (frm + (tt : Int)) wa HZ.out.1.ex (hinv.bd (by omega)) ?_ ?_).mono ?_
          · rw [HCLK.out, hst]; simp
          · rw [HCLK.out, hst]; simp
          · rintro e w' ⟨v, rfl, ho, hq⟩
            rw [HCLK.out, hst] at hq
            obtain ⟨ao, co, rfl, -⟩ := hq.out.2
            exact ⟨ao, co, rfl, hid (HZ.out.1.step ho (.inl rfl) hq.out.1)⟩)
        go_wp2_with fail
        refine XT2.out.mono ?_
        rintro e w4 ⟨ao, co, rfl, HQ4⟩
        clear XT2 e0 e1 e2 e3 e4 e5 e6 e7 e8 e9 e10 e11 hlW
        go_wp2_with fail
        go_loopw [10, 14] (fun s10 s14 wq => s14 = .int .i64 0 ∧ gv = s10 ∧ w4 = wq) (fun _ _ _ => 0)
        case atStart => exact ⟨rfl, rfl, rfl⟩
        case round =>
          obtain ⟨rfl, rfl, rfl⟩ := hrel
          go_wp2_with fail
          go_roundw
          case rel => exact ⟨t + 1, tt + 1, x', h', got, gv, hid (by rw [HTT.out]), by omega, hid (by have := HTT.out; omega), by go_num, rfl, hid ⟨HQ4.out, qi_no HZ.out.2.1 HRG.out HRD.out, prog_no OK.out hfr.1 HZ.out.2.1.way HZ.out.2.2 (by rw [← HNOW.out]; exact HRD.out)⟩⟩
          case measure => simp [intOf]; omega
    have hlt : i < n := by omega
    clear hge
    have hltl : i < l.length := by rw [← HN.out]; exact hlt
    obtain ⟨bA, off, rfl, hpA, hc⟩ := HC.out.resolve_left (by intro e; rw [e] at hltl; simp at hltl)
    have HCE : Hid (∀ w', Below W.heap.size W w' → ∀ j u, (l[i].enc)[j]? = some u → w'.cell? ⟨bA, off + i * 11 + j, none⟩ = some u) := hid (fun w' hb j u hu => (hb.cell (p := ⟨bA, off + i * 11 + j, none⟩) hpA).trans (hc i hltl j u hu))
    have HWM := hid (HW.out l[i] (List.getElem_mem hltl))
    have hsz := HR.out.1.below.size
    have hlA : bA < wo.heap.size := by omega
    clear hc
    generalize l[i] = y at HCE HWM
    obtain ⟨d0, d1, d2, d3, d4, d5, d6, d7, d8, d9, d10⟩ := sp_cells (fun j u hu => HCE.out wo HR.out.1.below j u hu)
    by_cases hnm : 200 < y.name.size
    · have hb2 : (200 : Int) < (y.name.size : Int) := by omega
      go_wp2_with fail
      refine (XK.out _).mono ?_
      rintro e w3 ⟨rfl, hb3⟩
      go_wp2_with fail
      go_ret
      exact ⟨rfl, HR.out.1.below.trans (hb3.mono HR.out.1.below.size)⟩
    have hb2 : ¬ (200 : Int) < (y.name.size : Int) := by omega
    clear hnm
    have XP := hid (put_any gX gS gB h 0 c x y wo HR.out.1.ex HWM.out)
    obtain ⟨r, hr⟩ : ∃ r, putE c x y = r := ⟨_, rfl⟩
    have XP2 : Hid (Calls Try.prog 8 #[.pointer (some ⟨gX, 0, none⟩), .agg #[.int .u64 y.hi, .int .u64 y.lo, .int .u64 y.id, .int .u64 y.up, .string y.name, .int .i64 y.status, .int .i64 y.seq, .int .i64 y.kids, .bool y.shadow, .int .i64 y.start, .int .i64 y.stop]] wo fun e w' => e = .returned (.int .i64 r) ∧ ∃ h', Hid (QK W w0 w' gX gS gB h' c (putX c x y) put [] pv (.slice none 0 0))) := hid (XP.out.mono (by
      rintro e w' ⟨rfl, h', ho, hm, hx⟩
      exact ⟨by rw [hr], h', hid (HR.out.1.step ho hm hx.out)⟩))
    have HIP := hid (pi_put HR.out.2 (by omega) y HWM.out)
    have HRR := hid hr
    clear hr XP
    go_wp2_with fail
    refine XP2.out.mono ?_
    rintro e w4 ⟨rfl, h4, HQ4⟩
    have hlA4 : bA < w4.heap.size := by have := HQ4.out.below.size; omega
    clear XP2 d0 d1 d2 d3 d4 d5 d6 d7 d8 d9 d10
    by_cases hr0 : r = 0
    · subst hr0
      have HI7 : Hid (PI c (putX c x y) (i + 1) (put ++ [y])) := hid (by
        have h1 := HIP.out
        rw [if_pos HRR.out] at h1
        exact h1)
      obtain ⟨d0, d1, d2, d3, d4, d5, d6, d7, d8, d9, d10⟩ := sp_cells (fun j u hu => HCE.out w4 HQ4.out.below j u hu)
      obtain ⟨pa, pc, rfl⟩ := owns_form HQ4.out.prow
      have hpl : put.length ≤ 64 := by
        have h1 := HR.out.2.qi.cat
        obtain ⟨b, s, h2⟩ := HR.out.2.qi.inv
        have h3 := h2.room
        have h4 := h2.ok.buf
        rw [List.nil_append] at h1
        rw [← h1]; omega
      have HROW := hid HQ4.out.prow
      have hw0 : w0.heap.size ≤ w4.heap.size := HQ4.out.sz
      have h63 : put.length + 1 ≤ maxLen := by unfold maxLen; omega
      have hby : (put.length + 1) * 96 ≤ 140737488355328 := by omega
      go_wp2_with (at_builtin; refine wpList_push_at (w0 := w4) (T := 37) (news := Sp.enc y) C30.elemS rfl _ _ rfl w0.heap.size (.slice pa put.length pc) put.length _ rfl HROW.out rfl rfl rfl (by simp [Sp.enc, Value.oneCell']) h63 hby hw0 ?_; intro v9 w9 hown9 ho9 hm9; obtain ⟨a9, c9, rfl⟩ := owns_form hown9; have HO9 := hid ho9; have HM9 := hid hm9; have HW9 := hid hown9; clear hown9 ho9 hm9)
      go_roundw
      case rel =>
        refine ⟨i + 1, putX c x y, h4, put ++ [y], .slice a9 (put.length + 1) c9, by omega, by go_num, rfl, hid ⟨HQ4.out.onPut HI7.out.qi.way rfl HO9.out HM9.out ?_, HI7.out⟩⟩
        have h1 := HW9.out
        rw [List.flatMap_append, List.length_append]
        have e1 : ([y] : List Sp).flatMap Sp.enc = Sp.enc y := by rw [List.flatMap_cons, List.flatMap_nil, List.append_nil]
        rw [e1]
        exact h1
      case measure => simp [intOf]; omega
    have q0 : (r == 0) = false := by simpa using hr0
    have HI7 : Hid (PI c (putX c x y) (i + 1) put) := hid (by
      have h1 := HIP.out
      rw [if_neg (by rw [HRR.out]; exact hr0)] at h1
      exact h1)
    go_wp2_with fail
    go_roundw
    case rel => exact ⟨i + 1, putX c x y, h4, put, pv, by omega, by go_num, rfl, hid ⟨HQ4.out, HI7.out⟩⟩
    case measure => simp [intOf]; omega
end C27
end Go.Proofs.Ytcohcanakicmpaa
