/- The law SnapAlone walked (17); no condition. -/
import Derived.Test.YtmmmaldpalhjeaaMg18
import Derived.Test.YtmmmaldpalhjeaaMg10
import Derived.Deep.Cut
import Derived.Deep.RegionHeld3
namespace Go.Proofs.Ytmmmaldpalhjeaa
open Go.RowKit Go.Peri
namespace C17
open C12 (wp_gen)
open C14 (TabV.at')
set_option maxRecDepth 100000 in
theorem new2_any (S0 : List Nat) (vn : Value) (ns : List ByteArray) (W : World) (hS : ∀ k, k ∈ S0 → k < W.heap.size) (hn : RowsOf (· < W.heap.size) sEnc 1 W vn ns) (hl : ns.length ≤ 1000000) :
    Calls Try.prog 32 #[vn] W fun e w' => ∃ g v2, e = .returned (.pointer (some ⟨g, 0, none⟩)) ∧ W.heap.size ≤ g ∧ Below W.heap.size W w' ∧ Hid (Hold 138 w' g (g :: S0) v2 ns 0 [] none 0 ByteArray.empty 0 0) := by
  have HC := hid (sclone_any vn ns W hn (fun _ h => h) hl)
  obtain ⟨a, cap, rfl⟩ := hn.form
  clear hn
  go_enter Try.func32, Try.ntmps32
  go_wp2_with fail
  refine HC.out.mono ?_
  rintro e w1 ⟨a1, cap1, rfl, hb1, hown⟩
  have HB1 := hid hb1
  have hr : RowsOf (fun b => W.heap.size ≤ b ∧ b < w1.heap.size) sEnc 1 w1 (.slice a1 ns.length cap1) ns := RowsOf.of_owns sEnc_length hown.out
  have HF : Hid (Hold 138 (w1.alloc (.cells #[.slice a1 ns.length cap1, .int .i64 0, .slice none 0 0, .string ByteArray.empty, .int .i64 0, .int .i64 0, .int .i64 0] 138)) w1.heap.size (w1.heap.size :: S0) (.slice a1 ns.length cap1) ns 0 [] none 0 ByteArray.empty 0 0) := by
    have hx : Below w1.heap.size w1 (w1.alloc (.cells #[.slice a1 ns.length cap1, .int .i64 0, .slice none 0 0, .string ByteArray.empty, .int .i64 0, .int .i64 0, .int .i64 0] 138)) := (Below.refl _ _).alloc (Nat.le_refl _) _
    have h1 := hb1.size
    refine ⟨by simp, fun k hk => ?_, Blk.new _ _ _, (hr.below hx (fun b hb => hb.2)).imp (fun b hb => ⟨Nat.lt_of_lt_of_le hb.2 hx.size, ?_⟩), ⟨⟨RowsOf.nil _ _ _ _, by decide, by simp, by decide⟩, RowsOf.nil _ _ _ _, by simp⟩⟩
    · rcases List.mem_cons.1 hk with rfl | hk
      · simp
      · have h2 := hS k hk
        have h3 := hx.size
        omega
    · simp only [List.mem_cons, not_or]
      exact ⟨by omega, fun h => by have := hS b h; omega⟩
  have HBX : Hid (Below W.heap.size W (w1.alloc (.cells #[.slice a1 ns.length cap1, .int .i64 0, .slice none 0 0, .string ByteArray.empty, .int .i64 0, .int .i64 0, .int .i64 0] 138))) := hid (HB1.out.alloc HB1.out.size _)
  have hsz := hb1.size
  clear hb1 hown hr
  go_wp2_with fail
  go_ret
  exact ⟨w1.heap.size, _, rfl, hsz, HBX.out, HF⟩
/-- Both holders behind k pushes. -/
structure Two (W : World) (g g2 : Nat) (v2 v3 : Value) (ns : List ByteArray) (k : Nat) (n : Int) (l : List Rl) (a : Option Addr) (cap : Nat) (lz : List Rl) (az : Option Addr) (capz : Nat) (f : ByteArray) (tk rf : Int) (wr : World) : Prop where
  one : Hold 138 wr g [g2, g] v2 ns n l a cap f tk rf
  two : Hold 138 wr g2 [g2, g] v3 ns n lz az capz f tk 0
  core : l.map Rl.core = lz.map Rl.core
  tk0 : 0 ≤ tk
  rf0 : 0 ≤ rf
  sum : tk + rf = k
  below : Below W.heap.size W wr
  len : l.length ≤ 1000000
  ps : ∀ x ∈ l, x.preds.length ≤ 1000000
theorem len_core {l k : List Rl} (h : l.map Rl.core = k.map Rl.core) : l.length = k.length := by
  have := congrArg List.length h
  simpa using this
set_option maxRecDepth 100000 in
set_option maxHeartbeats 16000000 in
theorem alone_walk (K : Known) (ns : List ByteArray) (vn : Value) (ts : List Tb) (vt : Value) (W : World) (hn : RowsOf (· < W.heap.size) sEnc 1 W vn ns) (hl : ns.length * 16 ≤ 140737488351232) (ht : RowsOf (· < W.heap.size) Tb.enc 3 W vt ts) (htl : ts.length * 48 ≤ 140737488351232) (hw : ∀ t ∈ ts, t.Wf W W.heap.size) :
    Calls Try.prog 8 #[vn, vt] W fun e w' => e = .returned (.bool true) ∧ Below W.heap.size W w' := by
  have HK := hid K
  have HNM := hid (fun w' (hb : Below W.heap.size W w') => (hn.below hb (fun _ h => h)).imp (fun b h => Nat.lt_of_lt_of_le h hb.size))
  have HTV := hid (fun w' (hb : Below W.heap.size W w') (t : Tb) (h : t ∈ ts) => (fun g : TabV w' W.heap.size t.l t.a t.cap t.f => (⟨g.rows.imp (fun b h => Nat.lt_of_lt_of_le h hb.size), g.len, fun x hx => ⟨(g.wf x hx).rows.imp (fun b h => Nat.lt_of_lt_of_le h hb.size), (g.wf x hx).len, (g.wf x hx).preds, (g.wf x hx).rank, (g.wf x hx).target, (g.wf x hx).mirror⟩, g.f⟩ : TabV w' w'.heap.size t.l t.a t.cap t.f)) ((hw t h).below hb))
  have HNW := hid (fun (h20 : ns.length ≤ 20) => new_any vn ns W hn (by omega))
  have HNX := hid (fun (h20 : ns.length ≤ 20) (w' : World) (hb : Below W.heap.size W w') (g : Nat) (hg : g < w'.heap.size) => new2_any [g] vn ns w' (by intro k hk; simp at hk; omega) (HNM.out w' hb) (by omega))
  obtain ⟨at_, capt, rfl, hlc, hcm, _, hcell⟩ := ht
  have HC := hid hcell
  obtain ⟨na, ncap, rfl⟩ := hn.form
  clear hn hcell hw
  by_cases h20 : 20 < ns.length
  · have hd : decide ((20 : Int) < (ns.length : Int)) = true := decide_eq_true (by omega)
    have HB0 := hid (Below.refl W.heap.size W)
    have i0 : (20 : Int) < (ns.length : Int) := by omega
    go_enter Try.func8, Try.ntmps8
    go_wp2_with fail
    refine (HK.out _).mono ?_
    rintro e wk ⟨rfl, hbk⟩
    have HBK := hid (HB0.out.trans (hbk.mono HB0.out.size))
    clear hbk
    go_wp2_with fail
    go_ret
    exact ⟨rfl, HBK.out⟩
  by_cases h30 : 30 < ts.length
  · have HB0 := hid (Below.refl W.heap.size W)
    have i0 : ¬ (20 : Int) < (ns.length : Int) := by omega
    have hd : decide ((20 : Int) < (ns.length : Int)) = false := decide_eq_false i0
    have i1 : (30 : Int) < (ts.length : Int) := by omega
    go_enter Try.func8, Try.ntmps8
    go_wp2_with fail
    refine (HK.out _).mono ?_
    rintro e wk ⟨rfl, hbk⟩
    have HBK := hid (HB0.out.trans (hbk.mono HB0.out.size))
    clear hbk
    go_wp2_with fail
    go_ret
    exact ⟨rfl, HBK.out⟩
  have i0 : ¬ (20 : Int) < (ns.length : Int) := by omega
  have hd : decide ((20 : Int) < (ns.length : Int)) = false := decide_eq_false i0
  have i1 : ¬ (30 : Int) < (ts.length : Int) := by omega
  have hd2 : decide ((30 : Int) < (ts.length : Int)) = false := decide_eq_false i1
  go_enter Try.func8, Try.ntmps8
  go_wp2_with fail
  refine (HNW.out (by omega)).mono ?_
  rintro e w2 ⟨g, v2, rfl, hg, hb2, hh2⟩
  have HB2 := hid hb2
  have HH2 := hid hh2.out
  have hgl := hh2.out.blk.lt
  clear hb2 hh2
  have HN2 := hid (HNX.out (by omega) w2 HB2.out g hgl)
  clear HNX
  go_wp2_with fail
  refine HN2.out.mono ?_
  rintro e w3 ⟨g2, v3, rfl, hg2, hb3, hh3⟩
  have HSTART : Hid (Two W g g2 v2 v3 ns 0 0 [] none 0 [] none 0 ByteArray.empty 0 0 w3) := hid ⟨HH2.out.more hb3 hg2 hh3.out.blk.lt, hh3.out, rfl, by decide, by decide, rfl, HB2.out.trans (hb3.mono HB2.out.size), by decide, by simp⟩
  have hgW : W.heap.size ≤ w2.heap.size := HB2.out.size
  have hgne : g ≠ g2 := by omega
  have hgW2 : W.heap.size ≤ g2 := by omega
  clear hb3 hh3 HB2 HH2 HN2 hgl
  go_wp2_with fail
  go_loopw [7] (fun i wr => ∃ k : Nat, k ≤ ts.length ∧ i = .int .i64 k ∧ Hid (∃ n l a cap lz az capz f tk rf, Two W g g2 v2 v3 ns k n l a cap lz az capz f tk rf wr)) (fun i _ => ts.length - (intOf i).toNat)
  case atStart => exact ⟨0, Nat.zero_le _, rfl, hid ⟨_, _, _, _, _, _, _, _, _, _, HSTART.out⟩⟩
  case round =>
    obtain ⟨k, hk, rfl, hh⟩ := hrel
    obtain ⟨n, l, a, cap, lz, az, capz, f, tk, rf, hB⟩ := hh.out
    clear hh
    have HBO := hid hB
    have HB := hid hB.below
    clear hB
    by_cases hlt : k < ts.length
    · obtain ⟨b, off, rfl, hpb, hc⟩ := HC.out.resolve_left (by intro e; rw [e] at hlt; simp at hlt)
      have HBT : Hid (∀ w', Below W.heap.size W w' → ∀ j u, ts[k].enc[j]? = some u → w'.cell? ⟨b, off + k * 3 + j, none⟩ = some u) := hid (fun w' hb j u hu => (hb.cell (p := ⟨b, off + k * 3 + j, none⟩) hpb).trans (hc k hlt j u hu))
      have HTK := hid (fun w' hb => HTV.out w' hb ts[k] (List.getElem_mem hlt))
      clear hc
      generalize ts[k] = t at HBT HTK
      obtain ⟨q, hq⟩ : ∃ q, C16.fewT t.l t.f = q := ⟨_, rfl⟩
      have HFW := hid (fun w' hb => C16.fewT_any t.n t.l t.a t.cap t.f q w' (HTK.out w' hb) (Nat.le_refl _) hq)
      have HPS : Hid (q = true → t.l.length ≤ 40 ∧ ∀ x ∈ t.l, x.preds.length ≤ 1000000) := hid (fun e => by
        subst e
        unfold C16.fewT at hq
        rw [Bool.and_eq_true] at hq
        exact ⟨Rl.few_len hq.2, fun r hr' => Nat.le_trans (Rl.few_preds hq.2 r hr') (by decide)⟩)
      clear hq
      have j0 : (0 : Int) ≤ (k : Int) := by omega
      have j1 : (k : Int) < (ts.length : Int) := by omega
      obtain ⟨e0, e1, e2⟩ := Tb.cells (HBT.out wr HB.out)
      go_wp2_with fail
      refine (HFW.out _ HB.out).mono ?_
      rintro e w4 ⟨rfl, hb4⟩
      have HB4 := hid (HB.out.trans (hb4.mono HB.out.size))
      have HS4 := hid hb4
      clear hb4 e0 e1 e2
      cases q
      · go_wp2_with fail
        refine (HK.out _).mono ?_
        rintro e wk ⟨rfl, hbk⟩
        have HBK := hid (HB4.out.trans (hbk.mono HB4.out.size))
        clear hbk
        go_wp2_with fail
        go_ret
        exact ⟨rfl, HBK.out⟩
      have HP := hid (HPS.out (by first | rfl | trivial))
      have HF : Hid (0 = 0) := hid rfl
      obtain ⟨e0, e1, e2⟩ := Tb.cells (HBT.out w4 HB4.out)
      obtain ⟨E, hE⟩ : ∃ E, judgeE ns n t.n t.f t.l = E := ⟨_, rfl⟩
      have hs1 := HBO.out.tk0
      have hs2 := HBO.out.rf0
      have hs3 := HBO.out.sum
      have HPU := hid (push_any w4 (HBO.out.one.only0 HS4.out) (by omega) (by omega) (by omega) t.n t.l t.a t.cap t.f E (HTK.out w4 HB4.out) (by have := HP.out.1; omega) HP.out.2 hE)
      by_cases hE0 : E = 0
      · subst hE0
        go_wp2_with fail
        refine HPU.out.mono ?_
        rintro e w5 ⟨rfl, ho5, l5, a5, cap5, hc5, hh5⟩
        simp only [if_true] at hc5 hh5
        have HB5 : Hid (Below W.heap.size W w5) := hid (HB4.out.trans (ho5.below HB4.out.size (fun k hk => by simp at hk; omega)))
        have HH5 := hid hh5
        have HC5 := hid hc5
        have HZ5 := hid ((HBO.out.two.only0 HS4.out).only (S' := [g]) (by simp) (by simpa using hgne.symm) ho5)
        have HPZ := hid (push_any w5 HZ5.out (by omega) (by omega) (by decide) t.n t.l t.a t.cap t.f 0 (HTK.out w5 HB5.out) (by have := HP.out.1; omega) HP.out.2 hE)
        clear e0 e1 e2 HPU HFW ho5 hc5 hh5
        obtain ⟨e0, e1, e2⟩ := Tb.cells (HBT.out w5 HB5.out)
        go_wp2_with fail
        refine HPZ.out.mono ?_
        rintro e w6 ⟨rfl, ho6, l6, a6, cap6, hc6, hh6⟩
        simp only [if_true] at hc6 hh6
        have HFI : Hid (Two W g g2 v2 v3 ns (k + 1) t.n l5 a5 cap5 l6 a6 cap6 t.f (tk + 1) rf w6) := hid ⟨HH5.out.only (S' := [g2]) (by simp) (by simpa using hgne) ho6, hh6, HC5.out.trans hc6.symm, by omega, hs2, by push_cast; omega, HB5.out.trans (ho6.below HB5.out.size (fun k hk => by simp at hk; omega)), by have := len_core HC5.out; have := HP.out.1; omega, C14.psl_core HC5.out HP.out.2⟩
        clear e0 e1 e2 HPZ ho6 hc6 hh6
        go_wp2_with fail
        go_roundw
        case rel => exact ⟨k + 1, by omega, by go_num, hid ⟨_, _, _, _, _, _, _, _, _, _, HFI.out⟩⟩
        case measure => simp [intOf]; omega
      · have q0 : (E == 0) = false := by simpa using hE0
        go_wp2_with fail
        refine HPU.out.mono ?_
        rintro e w5 ⟨rfl, ho5, l5, a5, cap5, hc5, hh5⟩
        rw [if_neg hE0] at hc5
        rw [if_neg hE0, if_neg hE0, if_neg hE0, if_neg hE0] at hh5
        have HB5 : Hid (Below W.heap.size W w5) := hid (HB4.out.trans (ho5.below HB4.out.size (fun k hk => by simp at hk; omega)))
        have HFI : Hid (Two W g g2 v2 v3 ns (k + 1) n l5 a5 cap5 lz az capz f tk (rf + 1) w5) := hid ⟨hh5, (HBO.out.two.only0 HS4.out).only (S' := [g]) (by simp) (by simpa using hgne.symm) ho5, hc5.trans HBO.out.core, hs1, by omega, by push_cast; omega, HB5.out, by have := len_core hc5; have := HBO.out.len; omega, C14.psl_core hc5 HBO.out.ps⟩
        clear e0 e1 e2 HPU HFW ho5 hc5 hh5
        go_wp2_with fail
        go_roundw
        case rel => exact ⟨k + 1, by omega, by go_num, hid ⟨_, _, _, _, _, _, _, _, _, _, HFI.out⟩⟩
        case measure => simp [intOf]; omega
    · obtain rfl : k = ts.length := by omega
      have HG1 := hid (getq_any wr HBO.out.one HBO.out.len HBO.out.ps)
      go_wp2_with fail
      refine HG1.out.mono ?_
      rintro e w5 ⟨v5, rfl, l5, a5, cap5, rfl, hb5, hc5, ht5⟩
      have HC5 := hid hc5
      have HT5 := hid ht5
      have HB5 := hid (HB.out.trans (hb5.mono HB.out.size))
      have HS5 := hid hb5
      have HG2 := hid (getq_any w5 (HBO.out.two.only0 hb5) (by have := len_core HBO.out.core; have := HBO.out.len; omega) (C14.psl_core HBO.out.core.symm HBO.out.ps))
      clear hb5 hc5 ht5 HG1
      go_wp2_with fail
      refine HG2.out.mono ?_
      rintro e w6 ⟨v6, rfl, l6, a6, cap6, rfl, hb6, hc6, ht6⟩
      have HB6 := hid (HB5.out.trans (hb6.mono HB5.out.size))
      have HS6 : Hid (Below wr.heap.size wr w6) := hid (HS5.out.trans (hb6.mono HS5.out.size))
      have HSA := hid (same_core n l5 l6 a5 a6 cap5 cap6 f w6 (C14.TabV.at' HT5.out hb6) ht6 (by have := len_core HC5.out; have := HBO.out.len; omega) (C14.psl_core HC5.out HBO.out.ps) (HC5.out.trans (HBO.out.core.trans hc6.symm)))
      clear hb6 hc6 ht6 HG2
      go_wp2_with fail
      refine HSA.out.mono ?_
      rintro e w7 ⟨rfl, hb7⟩
      have HB7 := hid (HB6.out.trans (hb7.mono HB6.out.size))
      have HX := hid (HBO.out.one.only0 (HS6.out.trans (hb7.mono HS6.out.size)))
      have HY := hid (HBO.out.two.only0 (HS6.out.trans (hb7.mono HS6.out.size)))
      have q5 : (n == n) = true := by simp
      have q6 : (tk == tk) = true := by simp
      clear hb7 HSA
      have HV1 := hid (version_any g n w7 (HX.out.blk.cell 4))
      have HV2 := hid (version_any g2 n w7 (HY.out.blk.cell 4))
      have HT1 := hid (taken_any g tk w7 (HX.out.blk.cell 5))
      have HT2 := hid (taken_any g2 tk w7 (HY.out.blk.cell 5))
      have HR2 := hid (refused_any g2 0 w7 (HY.out.blk.cell 6))
      go_wp2_with fail
      refine HV1.out.mono ?_
      rintro e w' ⟨rfl, rfl⟩
      go_wp2_with fail
      refine HV2.out.mono ?_
      rintro e w' ⟨rfl, rfl⟩
      go_wp2_with fail
      refine HT1.out.mono ?_
      rintro e w' ⟨rfl, rfl⟩
      go_wp2_with fail
      refine HT2.out.mono ?_
      rintro e w' ⟨rfl, rfl⟩
      go_wp2_with fail
      refine HR2.out.mono ?_
      rintro e w' ⟨rfl, rfl⟩
      go_wp2_with fail
      refine (HK.out _).mono ?_
      rintro e wk ⟨rfl, hbk⟩
      have HBK := hid (HB7.out.trans (hbk.mono HB7.out.size))
      clear hbk
      go_wp2_with fail
      go_ret
      exact ⟨rfl, HBK.out⟩
end C17
end Go.Proofs.Ytmmmaldpalhjeaa
