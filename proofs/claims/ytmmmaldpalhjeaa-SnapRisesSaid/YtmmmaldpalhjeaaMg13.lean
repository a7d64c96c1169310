/- The law TableCompiles walked (14); no condition. Walks of layer 12 (rule): what must come of fixed calls; no condition. The law RuleChecks walked (12); no condition. What a config argument reads as. No program in sight. -/
import Derived.Test.YtmmmaldpalhjeaaMg12
import Derived.Test.YtmmmaldpalhjeaaMg10
import Derived.Deep.Cut
import Derived.Test.YtmmmaldpalhjeaaMg03
import Derived.Test.YtmmmaldpalhjeaaMg07
import Derived.Test.YtmmmaldpalhjeaaMg06
namespace Go.Proofs.Ytmmmaldpalhjeaa
open Go.RowKit Go.Peri
namespace C14
open C12 (wp_gen namesB names_len sameB)
set_option maxRecDepth 100000 in
set_option maxHeartbeats 8000000 in
theorem compiles_walk (K : Known) (n : Int) (l : List Rl) (a : Option Addr) (cap : Nat) (f : ByteArray) (ns : List ByteArray) (vn : Value) (W : World) (hr : RowsOf (· < W.heap.size) Rl.enc 10 W (.slice a l.length cap) l) (hw : ∀ r ∈ l, r.Wf W W.heap.size) (hll : l.length * 112 ≤ 140737488351232) (hf : f.size ≤ 140737488351232) (hn : RowsOf (· < W.heap.size) sEnc 1 W vn ns) (hl : ns.length * 16 ≤ 140737488351232) :
    Calls Try.prog 14 #[.agg #[.slice a l.length cap, .string f], .int .i64 n, vn] W fun e w' => e = .returned (.bool true) ∧ Below W.heap.size W w' := by
  have HK := hid K
  obtain ⟨q1, hq1⟩ : ∃ q, C16.fewT l f = q := ⟨_, rfl⟩
  obtain ⟨q2, hq2⟩ : ∃ q, namesB ns = q := ⟨_, rfl⟩
  have HROW := hid (fun w' (hb : Below W.heap.size W w') => (hr.below hb (fun _ h => h)).imp (fun b h => Nat.lt_of_lt_of_le h hb.size))
  have HWF := hid (fun w' (hb : Below W.heap.size W w') (r : Rl) (hr' : r ∈ l) => (fun g : r.Wf w' W.heap.size => (⟨g.rows.imp (fun b h => Nat.lt_of_lt_of_le h hb.size), g.len, g.preds, g.rank, g.target, g.mirror⟩ : r.Wf w' w'.heap.size)) ((hw r hr').below hb))
  have HNS := hid (fun w' (hb : Below W.heap.size W w') => (hn.below hb (fun _ h => h)).imp (fun b h => Nat.lt_of_lt_of_le h hb.size))
  have HN := hid (fun w' (hb : Below W.heap.size W w') => names_any vn ns q2 w' (HNS.out w' hb) (by omega) hq2)
  have HL1 : Hid (q2 = true → ns.length ≤ 1000000000000) := hid (fun e => by subst e; have := names_len hq2; omega)
  have HPS1 : Hid (q1 = true → l.length ≤ 40 ∧ ∀ r ∈ l, r.preds.length ≤ 1000000) := hid (fun e => by
    subst e
    unfold C16.fewT at hq1
    rw [Bool.and_eq_true] at hq1
    exact ⟨Rl.few_len hq1.2, fun r hr' => Nat.le_trans (Rl.few_preds hq1.2 r hr') (by decide)⟩)
  have HF := hid (fun w' (hb : Below W.heap.size W w') => fewC_any l a cap f q1 w' (HROW.out w' hb) (HWF.out w' hb) (by omega) hf hq1)
  obtain ⟨c, hc⟩ : ∃ c, compR n f l ns = c := ⟨_, rfl⟩
  obtain ⟨d, hd⟩ : ∃ d, cfgR f l ns = d := ⟨_, rfl⟩
  obtain ⟨na, ncap, rfl⟩ := hn.form
  have HC1 := hid (fun w' (hb : Below W.heap.size W w') (hp : ∀ r ∈ l, r.preds.length ≤ 1000000) (hl : ns.length ≤ 1000000000000) => compile_any n l a cap f ns _ c w' (HROW.out w' hb) (HWF.out w' hb) hp (HNS.out w' hb) hl hf hc)
  have HC2 := hid (fun w' (hb : Below W.heap.size W w') (hp : ∀ r ∈ l, r.preds.length ≤ 1000000) (hl : ns.length ≤ 1000000000000) => rcompile_any n l a cap f ns _ c w' (HROW.out w' hb) (HWF.out w' hb) hp (HNS.out w' hb) hl hf hc)
  have HK1 := hid (fun w' (hb : Below W.heap.size W w') (hp : ∀ r ∈ l, r.preds.length ≤ 1000000) (hl : ns.length ≤ 1000000000000) => check_any l a cap f ns _ d w' (HROW.out w' hb) (HWF.out w' hb) (fun r hr => Nat.le_trans (hp r hr) (by decide)) (HNS.out w' hb) hl (by omega) hd)
  have HK2 := hid (fun w' (hb : Below W.heap.size W w') (hp : ∀ r ∈ l, r.preds.length ≤ 1000000) (hl : ns.length ≤ 1000000000000) => rcheck_any l a cap f ns _ d w' (HROW.out w' hb) (HWF.out w' hb) (fun r hr => Nat.le_trans (hp r hr) (by decide)) (HNS.out w' hb) hl (by omega) hd)
  clear hq1 hq2 hr hw hn hl hc hd HROW HWF HNS
  go_enter Try.func14, Try.ntmps14
  go_upto_region 1 with fail
  refine wp_gen ?_
  intro w1 hw1
  have hb1 : Below W.heap.size W w1 := by rw [hw1]; go_grown
  have hk1 : Blk w1 W.heap.size #[.slice a l.length cap, .string f] 109 := by rw [hw1]; exact Blk.new _ _ _
  clear hw1
  have HB1 := hid hb1
  have HX1 := hid hk1
  have c0 : w1.cell? ⟨W.heap.size, 0, none⟩ = some (.slice a l.length cap) := hk1.cell 0
  have c1 : w1.cell? ⟨W.heap.size, 1, none⟩ = some (.string f) := hk1.cell 1
  clear hb1 hk1
  go_wp2_with fail
  refine (HF.out _ HB1.out).mono ?_
  rintro e w2 ⟨rfl, hb2⟩
  have HB2 := hid (HB1.out.trans (hb2.mono HB1.out.size))
  have hk2 := HX1.out.later hb2
  have HX2 := hid hk2
  clear hb2 c0 c1 hk2
  cases q1
  · go_wp2_with fail
    refine (HK.out _).mono ?_
    rintro e wk ⟨rfl, hbk⟩
    have HBK := hid (HB2.out.trans (hbk.mono HB2.out.size))
    clear hbk
    go_wp2_with fail
    go_ret
    exact ⟨rfl, HBK.out⟩
  go_wp2_with fail
  refine (HN.out _ HB2.out).mono ?_
  rintro e w3 ⟨rfl, rfl⟩
  cases q2
  · go_wp2_with fail
    refine (HK.out _).mono ?_
    rintro e wk ⟨rfl, hbk⟩
    have HBK := hid (HB2.out.trans (hbk.mono HB2.out.size))
    clear hbk
    go_wp2_with fail
    go_ret
    exact ⟨rfl, HBK.out⟩
  have HP := hid (HPS1.out (by first | rfl | trivial)).2
  have HL40 := hid (HPS1.out (by first | rfl | trivial)).1
  have HL := hid (HL1.out (by first | rfl | trivial))
  have d0 : w2.cell? ⟨W.heap.size, 0, none⟩ = some (.slice a l.length cap) := HX2.out.cell 0
  have d1 : w2.cell? ⟨W.heap.size, 1, none⟩ = some (.string f) := HX2.out.cell 1
  clear HPS1 HL1 HF HN
  go_wp2_with fail
  refine (HC1.out _ HB2.out HP.out HL.out).mono ?_
  rintro e w3 ⟨v3, rfl, l1, a1, cap1, rfl, hb3, ht3, hl1⟩
  have HB3 := hid (HB2.out.trans (hb3.mono HB2.out.size))
  have HX3 := hid (HX2.out.later hb3)
  have hcc : (c == c) = true := by simp
  have hdd : (d == d) = true := by simp
  have HCL := hid hl1
  have HT3 := hid ht3
  clear hl1 hb3 ht3 d0 d1
  obtain ⟨n1, hn1⟩ : ∃ z, (if c = 0 then n else 0) = z := ⟨_, rfl⟩
  obtain ⟨f1, hf1⟩ : ∃ z, (if c = 0 then f else ByteArray.empty) = z := ⟨_, rfl⟩
  rw [hf1] at HT3
  rw [hn1, hf1]
  have HN1 := hid hn1
  have HF1 := hid hf1
  clear hn1 hf1
  go_upto_region 4 with fail
  refine wp_gen ?_
  intro w4 hw4
  have hb4 : Below w3.heap.size w3 w4 := by rw [hw4]; go_grown
  have hk4 : Blk w4 w3.heap.size #[.int .i64 n1, .slice a1 l1.length cap1, .string f1] 46 := by rw [hw4]; exact Blk.new _ _ _
  clear hw4
  have HB4 := hid (HB3.out.trans (hb4.mono HB3.out.size))
  have HX4 := hid (HX3.out.later hb4)
  have HY4 := hid hk4
  have HT4 := hid (TabV.at' HT3.out hb4)
  have d0 : w4.cell? ⟨W.heap.size, 0, none⟩ = some (.slice a l.length cap) := HX4.out.cell 0
  have d1 : w4.cell? ⟨W.heap.size, 1, none⟩ = some (.string f) := HX4.out.cell 1
  clear hb4 hk4
  go_wp2_with fail
  refine (HC2.out _ HB4.out HP.out HL.out).mono ?_
  rintro e w5 ⟨v5, rfl, l2, a2, cap2, rfl, hb5, ht5, hl2⟩
  have HB5 := hid (HB4.out.trans (hb5.mono HB4.out.size))
  have HX5 := hid (HX4.out.later hb5)
  have HY5 := hid (HY4.out.later hb5)
  have HT5 := hid (TabV.at' HT4.out hb5)
  have HS : Hid (sameB l1 l2 = true) := hid ((C12.sameB_core l1 l2).2 (HCL.out.trans hl2.symm))
  have HLEN : Hid (l1.length ≤ l.length ∧ l2.length ≤ l.length ∧ (∀ x ∈ l1, x.preds.length ≤ 1000000) ∧ ∀ x ∈ l2, x.preds.length ≤ 1000000) := hid (by
    have e1 := HCL.out
    have hp := HP.out
    by_cases hc0 : c = 0
    · rw [if_pos hc0] at e1 hl2
      have g1 := congrArg List.length e1
      have g2 := congrArg List.length hl2
      rw [List.length_map, List.length_map, Srt.order_length] at g1 g2
      have hpo : ∀ x ∈ Srt.order Rl.rank l, x.preds.length ≤ 1000000 := fun x hx => hp x ((Srt.order_mem Rl.rank x l).1 hx)
      exact ⟨by omega, by omega, psl_core e1 hpo, psl_core hl2 hpo⟩
    · rw [if_neg hc0] at e1 hl2
      have g1 : l1 = [] := List.map_eq_nil_iff.1 e1
      have g2 : l2 = [] := List.map_eq_nil_iff.1 hl2
      rw [g1, g2]
      exact ⟨by simp, by simp, by simp, by simp⟩)
  rw [HF1.out] at ht5
  rw [HN1.out, HF1.out]
  have HU5 := hid ht5
  clear hb5 ht5 hl2 d0 d1
  go_upto_region 5 with fail
  refine wp_gen ?_
  intro w6 hw6
  have hb6 : Below w5.heap.size w5 w6 := by rw [hw6]; go_grown
  have hk6 : Blk w6 w5.heap.size #[.int .i64 n1, .slice a2 l2.length cap2, .string f1] 46 := by rw [hw6]; exact Blk.new _ _ _
  clear hw6
  have HB6 := hid (HB5.out.trans (hb6.mono HB5.out.size))
  have HT6 := hid (TabV.at' HT5.out hb6)
  have HU6 := hid (TabV.at' HU5.out hb6)
  have hx6 := HX5.out.later hb6
  have hy6 := HY5.out.later hb6
  have d0 : w6.cell? ⟨W.heap.size, 0, none⟩ = some (.slice a l.length cap) := hx6.cell 0
  have d1 : w6.cell? ⟨W.heap.size, 1, none⟩ = some (.string f) := hx6.cell 1
  have y0 : w6.cell? ⟨w3.heap.size, 0, none⟩ = some (.int .i64 n1) := hy6.cell 0
  have y1 : w6.cell? ⟨w3.heap.size, 1, none⟩ = some (.slice a1 l1.length cap1) := hy6.cell 1
  have y2 : w6.cell? ⟨w3.heap.size, 2, none⟩ = some (.string f1) := hy6.cell 2
  have z0 : w6.cell? ⟨w5.heap.size, 0, none⟩ = some (.int .i64 n1) := hk6.cell 0
  have z1 : w6.cell? ⟨w5.heap.size, 1, none⟩ = some (.slice a2 l2.length cap2) := hk6.cell 1
  have z2 : w6.cell? ⟨w5.heap.size, 2, none⟩ = some (.string f1) := hk6.cell 2
  have g0 := hx6.lt
  have g1 := hy6.lt
  have g2 := hk6.lt
  have X1 : Hid (∀ z : BW w6, Calls Try.prog 73 #[.agg #[.slice a l.length cap, .string f], .slice na ns.length ncap] z.val fun e w' => e = .returned (.int .i64 d) ∧ Below z.val.heap.size z.val w') := hid (fun z => HK1.out z.val (HB6.out.trans (z.prop.mono HB6.out.size)) HP.out HL.out)
  have X2 : Hid (∀ z : BW w6, Calls Try.prog 74 #[.agg #[.slice a l.length cap, .string f], .slice na ns.length ncap] z.val fun e w' => e = .returned (.int .i64 d) ∧ Below z.val.heap.size z.val w') := hid (fun z => HK2.out z.val (HB6.out.trans (z.prop.mono HB6.out.size)) HP.out HL.out)
  have X3 : Hid (∀ z : BW w6, Calls Try.prog 36 #[.agg #[.int .i64 n1, .slice a1 l1.length cap1, .string f1], .agg #[.int .i64 n1, .slice a2 l2.length cap2, .string f1]] z.val fun e w' => e = .returned (.bool true) ∧ Below z.val.heap.size z.val w') := hid (fun z =>
    tsame_any n1 n1 l1 l2 a1 a2 cap1 cap2 f1 f1 true z.val (TabV.at' HT6.out z.prop) (TabV.at' HU6.out z.prop) (fun x hx => Nat.le_trans (HLEN.out.2.2.1 x hx) (by decide)) (fun x hx => Nat.le_trans (HLEN.out.2.2.2 x hx) (by decide)) (by have := HLEN.out.1; have := HL40.out; omega) (by have := HLEN.out.2.1; have := HL40.out; omega) (by rw [HS.out]; simp))
  clear hb6 hk6 hx6 hy6 HC1 HC2 HK1 HK2 HT3 HT4 HT5 HT6 HU5 HU6 HLEN HS HCL HP HL HL40
  generalize l1.length = m1 at *
  generalize l2.length = m2 at *
  go_wp2_with fail
  refine wp_region_bw (by kernel_rfl) (by kernel_rfl) ?_
  repeat (go_big_quiet_step ((first | (go_at_call 73; exact bw_call (X1.out _)) | (go_at_call 74; exact bw_call (X2.out _)) | (go_at_call 36; exact bw_call (X3.out _)) | (go_at_call 70; exact bw_call (HK.out _)))))
  refine wpQuiet_nil ?_
  rintro w7 ⟨⟨_, hb7⟩, rfl⟩
  have HB7 := hid (HB6.out.trans (hb7.mono HB6.out.size))
  clear hb7
  go_wp2_with fail
  go_ret
  exact ⟨rfl, HB7.out⟩
end C14
end Go.Proofs.Ytmmmaldpalhjeaa
namespace Go.Proofs.Ytmmmaldpalhjeaa
open Go.RowKit Go.Peri
namespace C12
def kA : Rl := ⟨1, none, 0, [], ⟨#[97]⟩, 0, 0, 0, 0, 0, ByteArray.empty, 0⟩
def kB (n : Nat) : Rl := ⟨5, some ⟨n, 0, none⟩, 1, [⟨2, ByteArray.empty, ⟨#[120]⟩⟩], ⟨#[98]⟩, 0, 0, 0, 0, 0, ByteArray.empty, 0⟩
def kC : Rl := ⟨5, none, 0, [], ⟨#[99]⟩, 0, 0, 0, 0, 0, ByteArray.empty, 0⟩
def kL (n : Nat) : List Rl := [kA, kB n, kC]
theorem kA_wf (w : World) (B : Nat) : kA.Wf w B := ⟨RowsOf.nil _ _ _ _, by decide, by simp [kA], by simp [kA, Sp.I64], by decide, by decide⟩
theorem kC_wf (w : World) (B : Nat) : kC.Wf w B := ⟨RowsOf.nil _ _ _ _, by decide, by simp [kC], by simp [kC, Sp.I64], by decide, by decide⟩
theorem kB_wf {w : World} {n B : Nat} (h : Blk w n #[.int .i64 2, .string ByteArray.empty, .string ⟨#[120]⟩] 146) (hB : n < B) : (kB n).Wf w B :=
  ⟨(rows_of_blk (l := [⟨2, ByteArray.empty, ⟨#[120]⟩⟩]) (enc := Prd.enc) (k := 3) (fun _ => rfl) h rfl (by decide)).imp (fun b hb => by rw [hb]; exact hB), by show 1 * 40 ≤ 140737488351232; decide, fun x hx => by
    have : x = ⟨2, ByteArray.empty, ⟨#[120]⟩⟩ := by simpa [kB] using hx
    subst this
    exact ⟨by simp [Sp.I64], by decide, by decide⟩, by simp [kB, Sp.I64], by show 1 ≤ 140737488351232; decide, by show 0 ≤ 140737488351232; decide⟩
theorem kReq (w : World) (h : ByteArray) (hh : h.size ≤ 140737488351232) : ReqV w w.heap.size ByteArray.empty h ByteArray.empty ByteArray.empty [] none 0 := ⟨RowsOf.nil _ _ _ _, by decide, by simp, by decide, hh, by decide, by decide⟩
theorem kL_psl (n : Nat) : ∀ r ∈ kL n, r.preds.length ≤ 1000000 := by
  intro r hr
  simp only [kL, List.mem_cons, List.not_mem_nil, or_false] at hr
  rcases hr with rfl | rfl | rfl
  · decide
  · show 1 ≤ 1000000; decide
  · decide
/-- The fixed rules, wherever memory has grown. -/
structure KeepL (W w' : World) : Prop where
  rows : RowsOf (· < w'.heap.size) Rl.enc 10 w' (.slice (some ⟨W.heap.size + 1, 0, none⟩) 3 3) (kL W.heap.size)
  wf : ∀ r ∈ kL W.heap.size, r.Wf w' w'.heap.size
theorem keepL {W w1 w' : World} (h0 : Blk w1 W.heap.size #[.int .i64 2, .string ByteArray.empty, .string ⟨#[120]⟩] 146) (h1 : Blk w1 (W.heap.size + 1) #[.int .i64 1, .slice none 0 0, .string ⟨#[97]⟩, .int .i64 0, .int .i64 0, .int .i64 0, .int .i64 0, .int .i64 0, .string ByteArray.empty, .int .i64 0, .int .i64 5, .slice (some ⟨W.heap.size, 0, none⟩) 1 1, .string ⟨#[98]⟩, .int .i64 0, .int .i64 0, .int .i64 0, .int .i64 0, .int .i64 0, .string ByteArray.empty, .int .i64 0, .int .i64 5, .slice none 0 0, .string ⟨#[99]⟩, .int .i64 0, .int .i64 0, .int .i64 0, .int .i64 0, .int .i64 0, .string ByteArray.empty, .int .i64 0] 60) (hb : Below w1.heap.size w1 w') : KeepL W w' := by
  have k0 := h0.later hb
  have k1 := h1.later hb
  refine ⟨(rows_of_blk (l := kL W.heap.size) Rl.enc_length k1 rfl (by show 3 ≤ maxLen; decide)).imp (fun b hb => by rw [hb]; exact k1.lt), fun r hr => ?_⟩
  simp only [kL, List.mem_cons, List.not_mem_nil, or_false] at hr
  rcases hr with rfl | rfl | rfl
  · exact kA_wf _ _
  · exact kB_wf k0 k0.lt
  · exact kC_wf _ _
def Known : Prop := ∀ W : World, Calls Try.prog 44 #[] W fun e w' => e = .returned (.bool true) ∧ Below W.heap.size W w'
set_option maxRecDepth 100000 in
set_option maxHeartbeats 4000000 in
theorem known_any : Known := by
  intro W
  go_enter Try.func44, Try.ntmps44
  go_upto_region 2 with fail
  refine wp_gen ?_
  intro w1 hw1
  have hb1 : Below W.heap.size W w1 := by rw [hw1]; go_grown
  have h0 : Blk w1 W.heap.size #[.int .i64 2, .string ByteArray.empty, .string ⟨#[120]⟩] 146 := by rw [hw1]; exact (Blk.new _ _ _).alloc _
  have h1 : Blk w1 (W.heap.size + 1) #[.int .i64 1, .slice none 0 0, .string ⟨#[97]⟩, .int .i64 0, .int .i64 0, .int .i64 0, .int .i64 0, .int .i64 0, .string ByteArray.empty, .int .i64 0, .int .i64 5, .slice (some ⟨W.heap.size, 0, none⟩) 1 1, .string ⟨#[98]⟩, .int .i64 0, .int .i64 0, .int .i64 0, .int .i64 0, .int .i64 0, .string ByteArray.empty, .int .i64 0, .int .i64 5, .slice none 0 0, .string ⟨#[99]⟩, .int .i64 0, .int .i64 0, .int .i64 0, .int .i64 0, .int .i64 0, .string ByteArray.empty, .int .i64 0] 60 := by rw [hw1]; exact Blk.new' _ _ _ (by simp)
  clear hw1
  have HB1 := hid hb1
  have K := hid (fun w' hb => keepL (w' := w') h0 h1 hb)
  have HO := hid (order_any (.slice (some ⟨W.heap.size + 1, 0, none⟩) 3 3) (kL W.heap.size) w1 (K.out w1 (Below.refl _ _)).rows (fun _ h => h) (by show 3 < 20; decide) (fun x hx => ((K.out w1 (Below.refl _ _)).wf x hx).at) (kL_psl _))
  have HK1 := hid h1
  clear hb1 h0 h1
  go_wp2_with fail
  refine HO.out.mono ?_
  rintro e w2 ⟨v2, rfl, l2, hc2, hb2, hown2, hat2⟩
  obtain ⟨g, cap2, rfl, _, hg⟩ := owns_at hown2 (by show 0 < 3; decide)
  have hl2 : l2.length = 3 := by
    have := congrArg List.length hc2
    rw [List.length_map, List.length_map, Srt.order_length] at this
    exact this
  obtain ⟨x0, x1, x2, rfl⟩ : ∃ x0 x1 x2, l2 = [x0, x1, x2] := by
    match l2, hl2 with
    | [a, b, c], _ => exact ⟨a, b, c, rfl⟩
  have hc3 : x0.core = (kB W.heap.size).core ∧ x1.core = kC.core ∧ x2.core = kA.core := by
    have e : Srt.order Rl.rank (kL W.heap.size) = [kB W.heap.size, kC, kA] := rfl
    rw [e] at hc2
    simpa using hc2
  have t0 : x0.target = ⟨#[98]⟩ := (Rl.core_eq hc3.1).2.2.1
  have t1 : x1.target = ⟨#[99]⟩ := (Rl.core_eq hc3.2.1).2.2.1
  have t2 : x2.target = ⟨#[97]⟩ := (Rl.core_eq hc3.2.2).2.2.1
  have u0 : w2.cell? ⟨g, 2, none⟩ = some (.string ⟨#[98]⟩) := by rw [hown2.cellAt 2 (by show 2 < 3 * 10; decide), ← t0]; rfl
  have u1 : w2.cell? ⟨g, 12, none⟩ = some (.string ⟨#[99]⟩) := by rw [hown2.cellAt 12 (by show 12 < 3 * 10; decide), ← t1]; rfl
  have u2 : w2.cell? ⟨g, 22, none⟩ = some (.string ⟨#[97]⟩) := by rw [hown2.cellAt 22 (by show 22 < 3 * 10; decide), ← t2]; rfl
  have HB2 := hid hb2
  clear hown2 hat2 hc2 hc3 hl2 t0 t1 t2 hb2 HO
  have LV3 : (kL W.heap.size).length = 3 := rfl
  have H0 : Hid (∀ w', Below w1.heap.size w1 w' → Calls Try.prog 54 #[.slice (some ⟨W.heap.size + 1, 0, none⟩) 3 3, .agg #[.string ByteArray.empty, .string ⟨#[120]⟩, .string ByteArray.empty, .slice none 0 0, .string ByteArray.empty]] w' fun e w'' => e = .returned (.int .i64 1) ∧ Below w'.heap.size w' w'') := hid (fun w' hw => first_any _ (kL W.heap.size) ByteArray.empty ⟨#[120]⟩ ByteArray.empty ByteArray.empty [] none 0 1 w' (K.out w' hw).rows (K.out w' hw).wf (kReq w' ⟨#[120]⟩ (by decide)) (by decide) (by show 3 ≤ 10000000000000; decide) (fun r hr => Nat.le_trans (kL_psl _ r hr) (by decide)) (by rfl))
  have H1 : Hid (∀ w', Below w1.heap.size w1 w' → Calls Try.prog 54 #[.slice (some ⟨W.heap.size + 1, 0, none⟩) 3 3, .agg #[.string ByteArray.empty, .string ByteArray.empty, .string ByteArray.empty, .slice none 0 0, .string ByteArray.empty]] w' fun e w'' => e = .returned (.int .i64 2) ∧ Below w'.heap.size w' w'') := hid (fun w' hw => first_any _ (kL W.heap.size) ByteArray.empty ByteArray.empty ByteArray.empty ByteArray.empty [] none 0 2 w' (K.out w' hw).rows (K.out w' hw).wf (kReq w' ByteArray.empty (by decide)) (by decide) (by show 3 ≤ 10000000000000; decide) (fun r hr => Nat.le_trans (kL_psl _ r hr) (by decide)) (by rfl))
  have H2 : Hid (∀ w', Below w1.heap.size w1 w' → Calls Try.prog 54 #[.slice none 0 0, .agg #[.string ByteArray.empty, .string ByteArray.empty, .string ByteArray.empty, .slice none 0 0, .string ByteArray.empty]] w' fun e w'' => e = .returned (.int .i64 (-1)) ∧ Below w'.heap.size w' w'') := hid (fun w' hw => first_any _ [] ByteArray.empty ByteArray.empty ByteArray.empty ByteArray.empty [] none 0 (-1) w' (RowsOf.nil _ _ _ _) (by simp) (kReq w' ByteArray.empty (by decide)) (by decide) (by decide) (by simp) (by rfl))
  have H3 : Hid (∀ w', Below w1.heap.size w1 w' → Calls Try.prog 49 #[.agg #[.int .i64 1, .slice none 0 0, .string ⟨#[97]⟩, .int .i64 0, .int .i64 0, .int .i64 0, .int .i64 0, .int .i64 0, .string ByteArray.empty, .int .i64 0], .agg #[.string ByteArray.empty, .string ByteArray.empty, .string ByteArray.empty, .slice none 0 0, .string ByteArray.empty]] w' fun e w'' => e = .returned (.bool true) ∧ Below w'.heap.size w' w'') := hid (fun w' hw => C16.hits_any kA ByteArray.empty ByteArray.empty ByteArray.empty ByteArray.empty [] none 0 true w' (kA_wf _ _) (kReq w' ByteArray.empty (by decide)) (Nat.le_refl _) (by decide) (by decide) (by rfl))
  have H4 : Hid (∀ w' : World, Calls Try.prog 45 #[.agg #[.int .i64 1, .slice none 0 0, .string ⟨#[97]⟩, .int .i64 0, .int .i64 0, .int .i64 0, .int .i64 0, .int .i64 0, .string ByteArray.empty, .int .i64 0], .slice (some ⟨w'.heap.size, 0, none⟩) 1 1] (w'.alloc (.cells #[.string ⟨#[97]⟩] 9)) fun e w'' => e = .returned (.int .i64 0) ∧ Below (w'.alloc (.cells #[.string ⟨#[97]⟩] 9)).heap.size (w'.alloc (.cells #[.string ⟨#[97]⟩] 9)) w'') := hid (fun w' =>
    check_any 1 none 0 [] ⟨#[97]⟩ 0 0 0 0 0 ByteArray.empty 0 [⟨#[97]⟩] (.slice (some ⟨w'.heap.size, 0, none⟩) 1 1) 0 _ (RowsOf.nil _ _ _ _) (by simp) (by decide) ((rows_of_blk (l := [⟨#[97]⟩]) (enc := sEnc) (k := 1) (fun _ => rfl) (Blk.new w' #[.string ⟨#[97]⟩] 9) rfl (by decide)).imp (fun b hb => by rw [hb]; simp)) (by decide) (by rfl))
  have H5 : Hid (∀ w' : World, Calls Try.prog 45 #[.agg #[.int .i64 1, .slice none 0 0, .string ⟨#[97]⟩, .int .i64 0, .int .i64 0, .int .i64 0, .int .i64 0, .int .i64 0, .string ByteArray.empty, .int .i64 0], .slice none 0 0] w' fun e w'' => e = .returned (.int .i64 7) ∧ Below w'.heap.size w' w'') := hid (fun w' =>
    check_any 1 none 0 [] ⟨#[97]⟩ 0 0 0 0 0 ByteArray.empty 0 [] (.slice none 0 0) 7 _ (RowsOf.nil _ _ _ _) (by simp) (by decide) (RowsOf.nil _ _ _ _) (by decide) (by rfl))
  have KA : Hid (∀ w', Below w1.heap.size w1 w' → Blk w' (W.heap.size + 1) #[.int .i64 1, .slice none 0 0, .string ⟨#[97]⟩, .int .i64 0, .int .i64 0, .int .i64 0, .int .i64 0, .int .i64 0, .string ByteArray.empty, .int .i64 0, .int .i64 5, .slice (some ⟨W.heap.size, 0, none⟩) 1 1, .string ⟨#[98]⟩, .int .i64 0, .int .i64 0, .int .i64 0, .int .i64 0, .int .i64 0, .string ByteArray.empty, .int .i64 0, .int .i64 5, .slice none 0 0, .string ⟨#[99]⟩, .int .i64 0, .int .i64 0, .int .i64 0, .int .i64 0, .int .i64 0, .string ByteArray.empty, .int .i64 0] 60) := hid (fun w' hw => HK1.out.later hw)
  clear K HK1
  go_wp2_with fail
  refine (H0.out _ HB2.out).mono ?_
  rintro e w3 ⟨rfl, hb⟩
  have HB3 := hid (HB2.out.trans (hb.mono HB2.out.size))
  clear hb
  go_wp2_with fail
  refine (H1.out _ HB3.out).mono ?_
  rintro e w4 ⟨rfl, hb⟩
  have HB4 := hid (HB3.out.trans (hb.mono HB3.out.size))
  clear hb
  go_wp2_with fail
  refine (H2.out _ HB4.out).mono ?_
  rintro e w5 ⟨rfl, hb⟩
  have HB5 := hid (HB4.out.trans (hb.mono HB4.out.size))
  clear hb
  have hkaw5 := KA.out w5 HB5.out
  have hklw5 := hkaw5.lt
  have a0w5 : w5.cell? ⟨W.heap.size + 1, 0, none⟩ = some (.int .i64 1) := hkaw5.cell 0
  have a1w5 : w5.cell? ⟨W.heap.size + 1, 1, none⟩ = some (.slice none 0 0) := hkaw5.cell 1
  have a2w5 : w5.cell? ⟨W.heap.size + 1, 2, none⟩ = some (.string ⟨#[97]⟩) := hkaw5.cell 2
  have a3w5 : w5.cell? ⟨W.heap.size + 1, 3, none⟩ = some (.int .i64 0) := hkaw5.cell 3
  have a4w5 : w5.cell? ⟨W.heap.size + 1, 4, none⟩ = some (.int .i64 0) := hkaw5.cell 4
  have a5w5 : w5.cell? ⟨W.heap.size + 1, 5, none⟩ = some (.int .i64 0) := hkaw5.cell 5
  have a6w5 : w5.cell? ⟨W.heap.size + 1, 6, none⟩ = some (.int .i64 0) := hkaw5.cell 6
  have a7w5 : w5.cell? ⟨W.heap.size + 1, 7, none⟩ = some (.int .i64 0) := hkaw5.cell 7
  have a8w5 : w5.cell? ⟨W.heap.size + 1, 8, none⟩ = some (.string ByteArray.empty) := hkaw5.cell 8
  have a9w5 : w5.cell? ⟨W.heap.size + 1, 9, none⟩ = some (.int .i64 0) := hkaw5.cell 9
  clear hkaw5
  go_wp2_with fail
  refine (H3.out _ HB5.out).mono ?_
  rintro e w6 ⟨rfl, hb⟩
  have HB6 := hid (HB5.out.trans (hb.mono HB5.out.size))
  clear hb
  have hkaw6 := KA.out w6 HB6.out
  have hklw6 := hkaw6.lt
  have a0w6 : w6.cell? ⟨W.heap.size + 1, 0, none⟩ = some (.int .i64 1) := hkaw6.cell 0
  have a1w6 : w6.cell? ⟨W.heap.size + 1, 1, none⟩ = some (.slice none 0 0) := hkaw6.cell 1
  have a2w6 : w6.cell? ⟨W.heap.size + 1, 2, none⟩ = some (.string ⟨#[97]⟩) := hkaw6.cell 2
  have a3w6 : w6.cell? ⟨W.heap.size + 1, 3, none⟩ = some (.int .i64 0) := hkaw6.cell 3
  have a4w6 : w6.cell? ⟨W.heap.size + 1, 4, none⟩ = some (.int .i64 0) := hkaw6.cell 4
  have a5w6 : w6.cell? ⟨W.heap.size + 1, 5, none⟩ = some (.int .i64 0) := hkaw6.cell 5
  have a6w6 : w6.cell? ⟨W.heap.size + 1, 6, none⟩ = some (.int .i64 0) := hkaw6.cell 6
  have a7w6 : w6.cell? ⟨W.heap.size + 1, 7, none⟩ = some (.int .i64 0) := hkaw6.cell 7
  have a8w6 : w6.cell? ⟨W.heap.size + 1, 8, none⟩ = some (.string ByteArray.empty) := hkaw6.cell 8
  have a9w6 : w6.cell? ⟨W.heap.size + 1, 9, none⟩ = some (.int .i64 0) := hkaw6.cell 9
  clear hkaw6
  have HS4 : Hid (Below w1.heap.size w1 (w6.alloc (.cells #[.string ⟨#[97]⟩] 9))) := hid (HB6.out.alloc HB6.out.size _)
  go_wp2_with fail
  refine (H4.out _).mono ?_
  rintro e w7 ⟨rfl, hb⟩
  have HB7 := hid (HS4.out.trans (hb.mono HS4.out.size))
  clear hb
  have hkaw7 := KA.out w7 HB7.out
  have hklw7 := hkaw7.lt
  have a0w7 : w7.cell? ⟨W.heap.size + 1, 0, none⟩ = some (.int .i64 1) := hkaw7.cell 0
  have a1w7 : w7.cell? ⟨W.heap.size + 1, 1, none⟩ = some (.slice none 0 0) := hkaw7.cell 1
  have a2w7 : w7.cell? ⟨W.heap.size + 1, 2, none⟩ = some (.string ⟨#[97]⟩) := hkaw7.cell 2
  have a3w7 : w7.cell? ⟨W.heap.size + 1, 3, none⟩ = some (.int .i64 0) := hkaw7.cell 3
  have a4w7 : w7.cell? ⟨W.heap.size + 1, 4, none⟩ = some (.int .i64 0) := hkaw7.cell 4
  have a5w7 : w7.cell? ⟨W.heap.size + 1, 5, none⟩ = some (.int .i64 0) := hkaw7.cell 5
  have a6w7 : w7.cell? ⟨W.heap.size + 1, 6, none⟩ = some (.int .i64 0) := hkaw7.cell 6
  have a7w7 : w7.cell? ⟨W.heap.size + 1, 7, none⟩ = some (.int .i64 0) := hkaw7.cell 7
  have a8w7 : w7.cell? ⟨W.heap.size + 1, 8, none⟩ = some (.string ByteArray.empty) := hkaw7.cell 8
  have a9w7 : w7.cell? ⟨W.heap.size + 1, 9, none⟩ = some (.int .i64 0) := hkaw7.cell 9
  clear hkaw7
  go_wp2_with fail
  refine (H5.out _).mono ?_
  rintro e w8 ⟨rfl, hb⟩
  have HB8 := hid (HB7.out.trans (hb.mono HB7.out.size))
  clear hb
  go_wp2_with fail
  go_ret
  exact ⟨rfl, HB1.out.trans (HB8.out.mono HB1.out.size)⟩
end C12
end Go.Proofs.Ytmmmaldpalhjeaa
namespace Go.Peri
open Go.RowKit
theorem names_of_arg {w : World} {B : Nat} {v : Value} (h : Arg w B (.slice 16 .str) v) : ∃ ns : List ByteArray, RowsOf (· < B) sEnc 1 w v ns ∧ ns.length * 16 ≤ 140737488351232 ∧ (∀ s ∈ ns, s.size ≤ 140737488351232) :=
  rows_of_arg (enc := sEnc) (wf := fun s => s.size ≤ 140737488351232) (e := .str) (fun _ => rfl) (fun cs hc => by
    obtain ⟨t, e, ht⟩ := Hd.rd_str hc
    exact ⟨t, e, ht⟩) h
theorem rule_of_arg {w : World} {B : Nat} {v : Value} (h : Arg w B Rl.ty v) : ∃ r : Rl, v = .agg #[.int .i64 r.rank, .slice r.pa r.preds.length r.pcap, .string r.target, .int .i64 r.ap, .int .i64 r.as_, .int .i64 r.dp, .int .i64 r.dt, .int .i64 r.mp, .string r.mirror, .int .i64 r.sample] ∧ r.Wf w B := by
  obtain ⟨cs, rfl, h⟩ : ∃ cs, v = .agg cs ∧ Rd w B Rl.ty cs.toList := h
  obtain ⟨r, e, hw⟩ := Rl.of_rd h
  refine ⟨r, ?_, hw⟩
  congr 1
  exact Array.toList_inj.1 e
end Go.Peri
namespace Go.Proofs.Ytmmmaldpalhjeaa
open Go.RowKit Go.Peri
namespace C12
set_option maxRecDepth 100000 in
set_option maxHeartbeats 4000000 in
theorem checks_walk (K : Known) (x : Rl) (ns : List ByteArray) (vn : Value) (W : World) (hx : x.Wf W W.heap.size) (hn : RowsOf (· < W.heap.size) sEnc 1 W vn ns) (hl : ns.length * 16 ≤ 140737488351232) :
    Calls Try.prog 9 #[.agg #[.int .i64 x.rank, .slice x.pa x.preds.length x.pcap, .string x.target, .int .i64 x.ap, .int .i64 x.as_, .int .i64 x.dp, .int .i64 x.dt, .int .i64 x.mp, .string x.mirror, .int .i64 x.sample], vn] W fun e w' => e = .returned (.bool true) ∧ Below W.heap.size W w' := by
  have HK := hid K
  obtain ⟨q1, hq1⟩ : ∃ q, Prd.few x.preds = q := ⟨_, rfl⟩
  obtain ⟨q2, hq2⟩ : ∃ q, namesB ns = q := ⟨_, rfl⟩
  obtain ⟨c, hc⟩ : ∃ c, checkR x.rank x.preds x.target x.ap x.as_ x.dp x.dt x.mp x.mirror x.sample ns = c := ⟨_, rfl⟩
  have hpl := hx.len
  have HF := hid (fun w' (hb : Below W.heap.size W w') => C11.few_any (p := (· < W.heap.size)) (.slice x.pa x.preds.length x.pcap) x.preds q1 w' (hx.rows.below hb (fun _ h => h)) (fun b h => Nat.lt_of_lt_of_le h hb.size) hx.preds (by omega) hq1)
  have HN := hid (fun w' (hb : Below W.heap.size W w') => names_any vn ns q2 w' (hn.below hb (fun _ h => h)) (by omega) hq2)
  have HP1 : Hid (q1 = true → x.preds.length ≤ 1000000000) := hid (fun e => by subst e; have := Prd.few_len hq1; omega)
  have HL1 : Hid (q2 = true → ns.length ≤ 20) := hid (fun e => by subst e; exact names_len hq2)
  have HC1 := hid (fun w' (hb : Below W.heap.size W w') (hp : x.preds.length ≤ 1000000000) (hl : ns.length ≤ 20) => check_any x.rank x.pa x.pcap x.preds x.target x.ap x.as_ x.dp x.dt x.mp x.mirror x.sample ns vn c w' ((hx.rows.below hb (fun _ h => h)).imp (fun b h => Nat.lt_of_lt_of_le h hb.size)) hx.preds hp ((hn.below hb (fun _ h => h)).imp (fun b h => Nat.lt_of_lt_of_le h hb.size)) (by omega) hc)
  have HC2 := hid (fun w' (hb : Below W.heap.size W w') (hp : x.preds.length ≤ 1000000000) (hl : ns.length ≤ 20) => rcheck_any x.rank x.pa x.pcap x.preds x.target x.ap x.as_ x.dp x.dt x.mp x.mirror x.sample ns vn c w' ((hx.rows.below hb (fun _ h => h)).imp (fun b h => Nat.lt_of_lt_of_le h hb.size)) hx.preds hp ((hn.below hb (fun _ h => h)).imp (fun b h => Nat.lt_of_lt_of_le h hb.size)) (by omega) hc)
  obtain ⟨na, ncap, rfl⟩ := hn.form
  have ht := hx.target
  have hm := hx.mirror
  clear hq1 hq2 hc hx hn hl hpl
  go_enter Try.func9, Try.ntmps9
  go_upto_region 1 with fail
  refine wp_gen ?_
  intro w1 hw1
  have hb1 : Below W.heap.size W w1 := by rw [hw1]; go_grown
  have hk1 : Blk w1 W.heap.size #[.int .i64 x.rank, .slice x.pa x.preds.length x.pcap, .string x.target, .int .i64 x.ap, .int .i64 x.as_, .int .i64 x.dp, .int .i64 x.dt, .int .i64 x.mp, .string x.mirror, .int .i64 x.sample] 60 := by rw [hw1]; exact Blk.new _ _ _
  clear hw1
  have HB1 := hid hb1
  have HK1 := hid hk1
  have c1 : w1.cell? ⟨W.heap.size, 1, none⟩ = some (.slice x.pa x.preds.length x.pcap) := hk1.cell 1
  clear hb1 hk1
  go_wp2_with fail
  refine (HF.out _ HB1.out).mono ?_
  rintro e w2 ⟨rfl, hb2⟩
  have HB2 := hid (HB1.out.trans (hb2.mono HB1.out.size))
  have hk2 := HK1.out.later hb2
  have c2 : w2.cell? ⟨W.heap.size, 2, none⟩ = some (.string x.target) := hk2.cell 2
  have c8 : w2.cell? ⟨W.heap.size, 8, none⟩ = some (.string x.mirror) := hk2.cell 8
  have HK2 := hid hk2
  clear hb2 hk2 c1
  cases q1
  · clear c2 c8
    go_wp2_with fail
    refine (HK.out _).mono ?_
    rintro e w3 ⟨rfl, hb3⟩
    have HB3 := hid (HB2.out.trans (hb3.mono HB2.out.size))
    clear hb3
    go_wp2_with fail
    go_ret
    exact ⟨rfl, HB3.out⟩
  have HP := hid (HP1.out rfl)
  clear HP1
  go_wp2_with fail
  refine (HN.out _ HB2.out).mono ?_
  rintro e w3 ⟨rfl, rfl⟩
  cases q2
  · clear c2 c8
    go_wp2_with fail
    refine (HK.out _).mono ?_
    rintro e w3 ⟨rfl, hb3⟩
    have HB3 := hid (HB2.out.trans (hb3.mono HB2.out.size))
    clear hb3
    go_wp2_with fail
    go_ret
    exact ⟨rfl, HB3.out⟩
  have HL := hid (HL1.out rfl)
  clear HL1
  by_cases h4 : 400 < x.target.size + x.mirror.size
  · have h5 : (400 : Int) < (x.target.size : Int) + (x.mirror.size : Int) := by omega
    go_wp2_with fail
    refine (HK.out _).mono ?_
    rintro e w3 ⟨rfl, hb3⟩
    have HB3 := hid (HB2.out.trans (hb3.mono HB2.out.size))
    clear hb3
    go_wp2_with fail
    go_ret
    exact ⟨rfl, HB3.out⟩
  have h5 : ¬ (400 : Int) < (x.target.size : Int) + (x.mirror.size : Int) := by omega
  have d0 : w2.cell? ⟨W.heap.size, 0, none⟩ = some (.int .i64 x.rank) := HK2.out.cell 0
  have d1 : w2.cell? ⟨W.heap.size, 1, none⟩ = some (.slice x.pa x.preds.length x.pcap) := HK2.out.cell 1
  have d3 : w2.cell? ⟨W.heap.size, 3, none⟩ = some (.int .i64 x.ap) := HK2.out.cell 3
  have d4 : w2.cell? ⟨W.heap.size, 4, none⟩ = some (.int .i64 x.as_) := HK2.out.cell 4
  have d5 : w2.cell? ⟨W.heap.size, 5, none⟩ = some (.int .i64 x.dp) := HK2.out.cell 5
  have d6 : w2.cell? ⟨W.heap.size, 6, none⟩ = some (.int .i64 x.dt) := HK2.out.cell 6
  have d7 : w2.cell? ⟨W.heap.size, 7, none⟩ = some (.int .i64 x.mp) := HK2.out.cell 7
  have d9 : w2.cell? ⟨W.heap.size, 9, none⟩ = some (.int .i64 x.sample) := HK2.out.cell 9
  have hlt := HK2.out.lt
  have X1 : Hid (∀ z : BW w2, Calls Try.prog 45 #[.agg #[.int .i64 x.rank, .slice x.pa x.preds.length x.pcap, .string x.target, .int .i64 x.ap, .int .i64 x.as_, .int .i64 x.dp, .int .i64 x.dt, .int .i64 x.mp, .string x.mirror, .int .i64 x.sample], .slice na ns.length ncap] z.val fun e w' => e = .returned (.int .i64 c) ∧ Below z.val.heap.size z.val w') := hid (fun z => HC1.out z.val (HB2.out.trans (z.prop.mono HB2.out.size)) HP.out HL.out)
  have X2 : Hid (∀ z : BW w2, Calls Try.prog 46 #[.agg #[.int .i64 x.rank, .slice x.pa x.preds.length x.pcap, .string x.target, .int .i64 x.ap, .int .i64 x.as_, .int .i64 x.dp, .int .i64 x.dt, .int .i64 x.mp, .string x.mirror, .int .i64 x.sample], .slice na ns.length ncap] z.val fun e w' => e = .returned (.int .i64 c) ∧ Below z.val.heap.size z.val w') := hid (fun z => HC2.out z.val (HB2.out.trans (z.prop.mono HB2.out.size)) HP.out HL.out)
  have hcc : (c == c) = true := by simp
  clear HC1 HC2 HF HN HK1 HP HL
  go_wp2_with fail
  refine wp_region_bw (by kernel_rfl) (by kernel_rfl) ?_
  repeat (go_big_quiet_step ((first | (go_at_call 45; exact bw_call (X1.out _)) | (go_at_call 46; exact bw_call (X2.out _)) | (go_at_call 44; exact bw_call (HK.out _)))))
  refine wpQuiet_nil ?_
  rintro w3 ⟨⟨_, hb3⟩, rfl⟩
  have HB3 := hid (HB2.out.trans (hb3.mono HB2.out.size))
  clear hb3
  go_wp2_with fail
  go_ret
  exact ⟨rfl, HB3.out⟩
end C12
end Go.Proofs.Ytmmmaldpalhjeaa
namespace Go.Peri
open Go.RowKit
def cfgTy : Ty := .cons (.slice 112 Rl.ty) (.cons .str .nil)
theorem cfg_of_arg {w : World} {B : Nat} {v : Value} (h : Arg w B cfgTy v) : ∃ (l : List Rl) (a : Option Addr) (cap : Nat) (f : ByteArray), v = .agg #[.slice a l.length cap, .string f] ∧ TabV w B l a cap f := by
  obtain ⟨cs, rfl, h⟩ : ∃ cs, v = .agg cs ∧ Rd w B cfgTy cs.toList := h
  obtain ⟨c1, _, e, hl1, a1, h⟩ := h
  obtain ⟨_, _, rfl, _, a2, h⟩ := h
  obtain ⟨f, rfl, g2⟩ := Hd.rd_str a2
  have e1 : (_ : List Value) = [] := h
  subst e1
  obtain ⟨v1, rfl⟩ : ∃ v, c1 = [v] := by
    match c1, hl1 with
    | [v], _ => exact ⟨v, rfl⟩
  obtain ⟨l, k1, k2, k3⟩ := rules_of_arg (v := v1) a1
  obtain ⟨a, cap, rfl⟩ : ∃ a cap, v1 = .slice a l.length cap := by
    obtain ⟨a, cap, e, _⟩ := k1
    exact ⟨a, cap, e⟩
  refine ⟨l, a, cap, f, ?_, ⟨k1, k2, k3, g2⟩⟩
  congr 1
  apply Array.toList_inj.1
  rw [e]
  rfl
end Go.Peri
