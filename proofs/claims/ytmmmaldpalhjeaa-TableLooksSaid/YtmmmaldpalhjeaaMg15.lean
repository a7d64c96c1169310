/- The law TableLooks walked (14); no condition. -/
import Derived.Test.YtmmmaldpalhjeaaMg12
import Derived.Deep.Cut
namespace Go.Proofs.Ytmmmaldpalhjeaa
open Go.RowKit Go.Peri
namespace C14
open C12 (wp_gen namesB names_len sameB)
set_option maxRecDepth 100000 in
set_option maxHeartbeats 8000000 in
theorem looks_walk (K : Known) (n : Int) (l : List Rl) (a : Option Addr) (cap : Nat) (f : ByteArray) (ns : List ByteArray) (vn : Value) (m h p b : ByteArray) (hs : List Hd) (a0 : Option Addr) (cap0 : Nat) (W : World) (ht : TabV W W.heap.size l a cap f) (hn : RowsOf (· < W.heap.size) sEnc 1 W vn ns) (hl : ns.length * 16 ≤ 140737488351232) (hq : ReqV W W.heap.size m h p b hs a0 cap0) :
    Calls Try.prog 15 #[.agg #[.int .i64 n, .slice a l.length cap, .string f], vn, .agg #[.string m, .string h, .string p, .slice a0 hs.length cap0, .string b]] W fun e w' => e = .returned (.bool true) ∧ Below W.heap.size W w' := by
  have hf := ht.f
  have hll := ht.len
  have HK := hid K
  obtain ⟨q1, hq1⟩ : ∃ q, C16.fewT l f = q := ⟨_, rfl⟩
  obtain ⟨q2, hq2⟩ : ∃ q, namesB ns = q := ⟨_, rfl⟩
  have HROW := hid (fun w' (hb : Below W.heap.size W w') => (ht.rows.below hb (fun _ h => h)).imp (fun b h => Nat.lt_of_lt_of_le h hb.size))
  have HWF := hid (fun w' (hb : Below W.heap.size W w') (r : Rl) (hr' : r ∈ l) => (fun g : r.Wf w' W.heap.size => (⟨g.rows.imp (fun b h => Nat.lt_of_lt_of_le h hb.size), g.len, g.preds, g.rank, g.target, g.mirror⟩ : r.Wf w' w'.heap.size)) ((ht.wf r hr').below hb))
  have HNS := hid (fun w' (hb : Below W.heap.size W w') => (hn.below hb (fun _ h => h)).imp (fun b h => Nat.lt_of_lt_of_le h hb.size))
  have HN := hid (fun w' (hb : Below W.heap.size W w') => names_any vn ns q2 w' (HNS.out w' hb) (by omega) hq2)
  have HL1 : Hid (q2 = true → ns.length ≤ 1000000000000) := hid (fun e => by subst e; have := names_len hq2; omega)
  have HPS1 : Hid (q1 = true → l.length ≤ 40 ∧ ∀ r ∈ l, r.preds.length ≤ 1000000) := hid (fun e => by
    subst e
    unfold C16.fewT at hq1
    rw [Bool.and_eq_true] at hq1
    exact ⟨Rl.few_len hq1.2, fun r hr' => Nat.le_trans (Rl.few_preds hq1.2 r hr') (by decide)⟩)
  obtain ⟨q3, hq3⟩ : ∃ q, C11.short m h p b hs = q := ⟨_, rfl⟩
  have HSH := hid (fun w' (hw : Below W.heap.size W w') => C11.short_any m h p b hs a0 cap0 q3 w' (hq.rows.below hw (fun _ h => h)) (fun b hb => Nat.lt_of_lt_of_le hb hw.size) hq.wf (by have := hq.len; omega) hq.m hq.h hq.p hq.b hq3)
  have HRV := hid (fun w' (hb : Below W.heap.size W w') => (fun g : ReqV w' W.heap.size m h p b hs a0 cap0 => (⟨g.rows.imp (fun b h => Nat.lt_of_lt_of_le h hb.size), g.len, g.wf, g.m, g.h, g.p, g.b⟩ : ReqV w' w'.heap.size m h p b hs a0 cap0)) (hq.below hb))
  have HH1 : Hid (q3 = true → hs.length ≤ 1000000) := hid (fun e => by subst e; have := (C11.short_len hq3).2; omega)
  have HF := hid (fun w' (hb : Below W.heap.size W w') => C16.fewT_any n l a cap f q1 w' (TabV.at' ht hb) (Nat.le_refl _) hq1)
  obtain ⟨r, hr⟩ : ∃ r, wholeB n f l ns = r := ⟨_, rfl⟩
  obtain ⟨k, hk⟩ : ∃ k, C16.lookR m h p hs l = k := ⟨_, rfl⟩
  obtain ⟨na, ncap, rfl⟩ := hn.form
  have HW1 := hid (fun w' (hb : Below W.heap.size W w') (hp : ∀ r ∈ l, r.preds.length ≤ 1000000) (h40 : l.length ≤ 40) (hl : ns.length ≤ 1000000000000) => whole_any n l a cap f ns _ r w' (HROW.out w' hb) (HWF.out w' hb) (by omega) hp (HNS.out w' hb) hl hf hr)
  have HW2 := hid (fun w' (hb : Below W.heap.size W w') (hp : ∀ r ∈ l, r.preds.length ≤ 1000000) (h40 : l.length ≤ 40) (hl : ns.length ≤ 1000000000000) => rwhole_any n l a cap f ns _ r w' (TabV.at' ht hb) (by omega) hp (HNS.out w' hb) hl hr)
  have HO1 := hid (fun w' (hb : Below W.heap.size W w') (hp : ∀ r ∈ l, r.preds.length ≤ 1000000) (hh : hs.length ≤ 1000000) => C16.look_any n l a cap f m h p b hs a0 cap0 k w' (TabV.at' ht hb) (HRV.out w' hb) (Nat.le_refl _) hh (fun r hr => Nat.le_trans (hp r hr) (by decide)) hk)
  have HO2 := hid (fun w' (hb : Below W.heap.size W w') (hp : ∀ r ∈ l, r.preds.length ≤ 1000000) (hh : hs.length ≤ 1000000) => C16.rlook_any n l a cap f m h p b hs a0 cap0 k w' (TabV.at' ht hb) (HRV.out w' hb) (Nat.le_refl _) hh (fun r hr => Nat.le_trans (hp r hr) (by decide)) hk)
  clear hq1 hq2 hq3 ht hn hl hr hk hq HROW HWF HNS HRV hf hll
  go_enter Try.func15, Try.ntmps15
  go_upto_region 1 with fail
  refine wp_gen ?_
  intro w1 hw1
  have hb1 : Below W.heap.size W w1 := by rw [hw1]; go_grown
  have hk1 : Blk w1 W.heap.size #[.int .i64 n, .slice a l.length cap, .string f] 46 := by rw [hw1]; exact (Blk.new _ _ _).alloc _
  have hk2 : Blk w1 (W.heap.size + 1) #[.string m, .string h, .string p, .slice a0 hs.length cap0, .string b] 67 := by rw [hw1]; exact Blk.new' _ _ _ (by simp)
  clear hw1
  have HB1 := hid hb1
  have HX1 := hid hk1
  have HY1 := hid hk2
  have c0 : w1.cell? ⟨W.heap.size, 0, none⟩ = some (.int .i64 n) := hk1.cell 0
  have c1 : w1.cell? ⟨W.heap.size, 1, none⟩ = some (.slice a l.length cap) := hk1.cell 1
  have c2 : w1.cell? ⟨W.heap.size, 2, none⟩ = some (.string f) := hk1.cell 2
  clear hb1 hk1 hk2
  go_wp2_with fail
  refine (HF.out _ HB1.out).mono ?_
  rintro e w2 ⟨rfl, hb2⟩
  have HB2 := hid (HB1.out.trans (hb2.mono HB1.out.size))
  have HX2 := hid (HX1.out.later hb2)
  have HY2 := hid (HY1.out.later hb2)
  clear hb2 c0 c1 c2
  cases q1
  · go_wp2_with fail
    refine (HK.out _).mono ?_
    rintro e wk ⟨rfl, hbk⟩
    have HBK := hid (HB2.out.trans (hbk.mono HB2.out.size))
    clear hbk
    go_wp2_with fail
    go_ret
    exact ⟨rfl, HBK.out⟩
  go_wp2_with fail
  refine (HN.out _ HB2.out).mono ?_
  rintro e w3 ⟨rfl, rfl⟩
  cases q2
  · go_wp2_with fail
    refine (HK.out _).mono ?_
    rintro e wk ⟨rfl, hbk⟩
    have HBK := hid (HB2.out.trans (hbk.mono HB2.out.size))
    clear hbk
    go_wp2_with fail
    go_ret
    exact ⟨rfl, HBK.out⟩
  have HP := hid (HPS1.out (by first | rfl | trivial)).2
  have HL40 := hid (HPS1.out (by first | rfl | trivial)).1
  have HL := hid (HL1.out (by first | rfl | trivial))
  have x0 : w2.cell? ⟨W.heap.size + 1, 0, none⟩ = some (.string m) := HY2.out.cell 0
  have x1 : w2.cell? ⟨W.heap.size + 1, 1, none⟩ = some (.string h) := HY2.out.cell 1
  have x2 : w2.cell? ⟨W.heap.size + 1, 2, none⟩ = some (.string p) := HY2.out.cell 2
  have x3 : w2.cell? ⟨W.heap.size + 1, 3, none⟩ = some (.slice a0 hs.length cap0) := HY2.out.cell 3
  have x4 : w2.cell? ⟨W.heap.size + 1, 4, none⟩ = some (.string b) := HY2.out.cell 4
  clear HPS1 HL1 HF HN
  go_wp2_with fail
  refine (HSH.out _ HB2.out).mono ?_
  rintro e w3 ⟨rfl, hb3⟩
  have HB3 := hid (HB2.out.trans (hb3.mono HB2.out.size))
  have hx3 := HX2.out.later hb3
  have hy3 := HY2.out.later hb3
  clear hb3 x0 x1 x2 x3 x4
  cases q3
  · clear hx3 hy3
    go_wp2_with fail
    refine (HK.out _).mono ?_
    rintro e wk ⟨rfl, hbk⟩
    have HBK := hid (HB3.out.trans (hbk.mono HB3.out.size))
    clear hbk
    go_wp2_with fail
    go_ret
    exact ⟨rfl, HBK.out⟩
  have HH := hid (HH1.out (by first | rfl | trivial))
  have x0 : w3.cell? ⟨W.heap.size + 1, 0, none⟩ = some (.string m) := hy3.cell 0
  have x1 : w3.cell? ⟨W.heap.size + 1, 1, none⟩ = some (.string h) := hy3.cell 1
  have x2 : w3.cell? ⟨W.heap.size + 1, 2, none⟩ = some (.string p) := hy3.cell 2
  have x3 : w3.cell? ⟨W.heap.size + 1, 3, none⟩ = some (.slice a0 hs.length cap0) := hy3.cell 3
  have x4 : w3.cell? ⟨W.heap.size + 1, 4, none⟩ = some (.string b) := hy3.cell 4
  have c0 : w3.cell? ⟨W.heap.size, 0, none⟩ = some (.int .i64 n) := hx3.cell 0
  have c1 : w3.cell? ⟨W.heap.size, 1, none⟩ = some (.slice a l.length cap) := hx3.cell 1
  have c2 : w3.cell? ⟨W.heap.size, 2, none⟩ = some (.string f) := hx3.cell 2
  have g1 := hx3.lt
  have g2 := hy3.lt
  have hrr : (r == r) = true := by simp
  have hkk : (k == k) = true := by simp
  have X1 : Hid (∀ z : BW w3, Calls Try.prog 75 #[.agg #[.int .i64 n, .slice a l.length cap, .string f], .slice na ns.length ncap] z.val fun e w' => e = .returned (.bool r) ∧ Below z.val.heap.size z.val w') := hid (fun z => HW1.out z.val (HB3.out.trans (z.prop.mono HB3.out.size)) HP.out HL40.out HL.out)
  have X2 : Hid (∀ z : BW w3, Calls Try.prog 41 #[.agg #[.int .i64 n, .slice a l.length cap, .string f], .slice na ns.length ncap] z.val fun e w' => e = .returned (.bool r) ∧ Below z.val.heap.size z.val w') := hid (fun z => HW2.out z.val (HB3.out.trans (z.prop.mono HB3.out.size)) HP.out HL40.out HL.out)
  have X3 : Hid (∀ z : BW w3, Calls Try.prog 76 #[.agg #[.int .i64 n, .slice a l.length cap, .string f], .agg #[.string m, .string h, .string p, .slice a0 hs.length cap0, .string b]] z.val fun e w' => e = .returned (.int .i64 k) ∧ Below z.val.heap.size z.val w') := hid (fun z => HO1.out z.val (HB3.out.trans (z.prop.mono HB3.out.size)) HP.out HH.out)
  have X4 : Hid (∀ z : BW w3, Calls Try.prog 77 #[.agg #[.int .i64 n, .slice a l.length cap, .string f], .agg #[.string m, .string h, .string p, .slice a0 hs.length cap0, .string b]] z.val fun e w' => e = .returned (.int .i64 k) ∧ Below z.val.heap.size z.val w') := hid (fun z => HO2.out z.val (HB3.out.trans (z.prop.mono HB3.out.size)) HP.out HH.out)
  clear hx3 hy3 HW1 HW2 HO1 HO2 HP HL40 HL HH HH1 HSH
  go_wp2_with fail
  refine wp_region_bw (by kernel_rfl) (by kernel_rfl) ?_
  repeat (go_big_quiet_step ((first | (go_at_call 75; exact bw_call (X1.out _)) | (go_at_call 41; exact bw_call (X2.out _)) | (go_at_call 76; exact bw_call (X3.out _)) | (go_at_call 77; exact bw_call (X4.out _)) | (go_at_call 70; exact bw_call (HK.out _)))))
  refine wpQuiet_nil ?_
  rintro w7 ⟨⟨_, hb7⟩, rfl⟩
  have HB7 := hid (HB3.out.trans (hb7.mono HB3.out.size))
  clear hb7
  go_wp2_with fail
  go_ret
  exact ⟨rfl, HB7.out⟩
end C14
end Go.Proofs.Ytmmmaldpalhjeaa
