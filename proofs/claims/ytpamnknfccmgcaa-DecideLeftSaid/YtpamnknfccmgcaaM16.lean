/- Walks of layer 16 (decide): DecideLeft; no condition. -/
import Derived.Test.YtpamnknfccmgcaaJ16
namespace Go.Proofs.Ytpamnknfccmgcaa
open Go.RowKit Go.Peri
namespace C16
theorem fires_more (x c p : Int) : firesR (x + 100 * c) p = firesR x p := by
  unfold firesR
  rw [show (x + 100 * c) % 100 = x % 100 by omega]
theorem of_more (m h p : ByteArray) (hs : List Hd) (l : List Rl) (x0 x1 x2 b0 b1 b2 : Int) : ofR m h p hs l (x0 + 100 * b0) (x1 + 100 * b1) (x2 + 100 * b2) false = ofR m h p hs l x0 x1 x2 false := by
  unfold ofR troubleR
  simp only [fires_more]
theorem samp_more (m h p : ByteArray) (hs : List Hd) (l : List Rl) (x0 b0 : Int) : sampR m h p hs l (x0 + 100 * b0) = sampR m h p hs l x0 := by
  unfold sampR
  simp only [fires_more]
def more (x0 x1 x2 b0 b1 b2 : Int) (k : Nat) : Array Value := #[.int .i64 (if 0 < k then x0 + 100 * b0 else x0), .int .i64 (if 1 < k then x1 + 100 * b1 else x1), .int .i64 (if 2 < k then x2 + 100 * b2 else x2)]
set_option maxRecDepth 100000 in
set_option maxHeartbeats 4000000 in
theorem left_walk (K : Known) (n : Int) (l : List Rl) (a : Option Addr) (cap : Nat) (f : ByteArray) (m h p b : ByteArray) (hs : List Hd) (a0 : Option Addr) (cap0 : Nat) (x0 x1 x2 b0 b1 b2 : Int) (W : World) (ht : TabV W W.heap.size l a cap f) (hq : ReqV W W.heap.size m h p b hs a0 cap0)
    (hb0 : -128 ≤ b0 ∧ b0 ≤ 127) (hb1 : -128 ≤ b1 ∧ b1 ≤ 127) (hb2 : -128 ≤ b2 ∧ b2 ≤ 127) :
    Calls Try.prog 20 #[.agg #[.int .i64 n, .slice a l.length cap, .string f], .agg #[.string m, .string h, .string p, .slice a0 hs.length cap0, .string b], .agg #[.int .i64 x0, .int .i64 x1, .int .i64 x2], .agg #[.int .i8 b0, .int .i8 b1, .int .i8 b2]] W fun e w' => e = .returned (.bool true) ∧ Below W.heap.size W w' := by
  have HK := hid K
  have HB0 : Hid (Below W.heap.size W ((((W.alloc (.cells #[.int .i64 n, .slice a l.length cap, .string f] 83)).alloc (.cells #[.string m, .string h, .string p, .slice a0 hs.length cap0, .string b] 59)).alloc (.cells #[.int .i64 x0, .int .i64 x1, .int .i64 x2] 94)).alloc (.cells #[.int .i8 b0, .int .i8 b1, .int .i8 b2] 102))) := by show Below _ _ _; go_grown
  have HZ := hid ((((Blk.new W #[.int .i64 n, .slice a l.length cap, .string f] 83).alloc (.cells #[.string m, .string h, .string p, .slice a0 hs.length cap0, .string b] 59)).alloc (.cells #[.int .i64 x0, .int .i64 x1, .int .i64 x2] 94)).alloc (.cells #[.int .i8 b0, .int .i8 b1, .int .i8 b2] 102))
  have HY := hid (((Blk.new' (W.alloc (.cells #[.int .i64 n, .slice a l.length cap, .string f] 83)) #[.string m, .string h, .string p, .slice a0 hs.length cap0, .string b] 59 (n := W.heap.size + 1) (by simp)).alloc (.cells #[.int .i64 x0, .int .i64 x1, .int .i64 x2] 94)).alloc (.cells #[.int .i8 b0, .int .i8 b1, .int .i8 b2] 102))
  have HX := hid ((Blk.new' ((W.alloc (.cells #[.int .i64 n, .slice a l.length cap, .string f] 83)).alloc (.cells #[.string m, .string h, .string p, .slice a0 hs.length cap0, .string b] 59)) #[.int .i64 x0, .int .i64 x1, .int .i64 x2] 94 (n := W.heap.size + 2) (by simp)).alloc (.cells #[.int .i8 b0, .int .i8 b1, .int .i8 b2] 102))
  have HV := hid (Blk.new' (((W.alloc (.cells #[.int .i64 n, .slice a l.length cap, .string f] 83)).alloc (.cells #[.string m, .string h, .string p, .slice a0 hs.length cap0, .string b] 59)).alloc (.cells #[.int .i64 x0, .int .i64 x1, .int .i64 x2] 94)) #[.int .i8 b0, .int .i8 b1, .int .i8 b2] 102 (n := W.heap.size + 3) (by simp))
  obtain ⟨rt, hrt⟩ : ∃ r, fewT l f = r := ⟨_, rfl⟩
  obtain ⟨rs, hrs⟩ : ∃ r, C11.short m h p b hs = r := ⟨_, rfl⟩
  have HF := hid (fun w' (hw : Below W.heap.size W w') => fewT_any n l a cap f rt w' (ht.below hw) hw.size hrt)
  have HSH := hid (fun w' (hw : Below W.heap.size W w') => C11.short_any m h p b hs a0 cap0 rs w' (hq.rows.below hw (fun _ h => h)) (fun b hb => Nat.lt_of_lt_of_le hb hw.size) hq.wf (by have := hq.len; omega) hq.m hq.h hq.p hq.b hrs)
  cases rt
  · clear hrt hrs ht hq K
    go_enter Try.func20, Try.ntmps20
    go_wp2_with fail
    refine (HF.out _ HB0.out).mono ?_
    rintro e w1 ⟨rfl, hb1⟩
    have HB1 := hid (HB0.out.trans (hb1.mono HB0.out.size))
    have HQ1 := hid hb1
    clear hb1
    go_wp2_with fail
    refine (HK.out _).mono ?_
    rintro e w9 ⟨rfl, hb9⟩
    have HB9 := hid (HB1.out.trans (hb9.mono HB1.out.size))
    clear hb9
    go_wp2_with fail
    go_ret
    exact ⟨rfl, HB9.out⟩
  cases rs
  · clear hrt hrs ht hq K
    go_enter Try.func20, Try.ntmps20
    go_wp2_with fail
    refine (HF.out _ HB0.out).mono ?_
    rintro e w1 ⟨rfl, hb1⟩
    have HB1 := hid (HB0.out.trans (hb1.mono HB0.out.size))
    have HQ1 := hid hb1
    have hy := HY.out.later hb1
    have y0 : w1.cell? ⟨W.heap.size + 1, 0, none⟩ = some (.string m) := hy.cell 0
    have y1 : w1.cell? ⟨W.heap.size + 1, 1, none⟩ = some (.string h) := hy.cell 1
    have y2 : w1.cell? ⟨W.heap.size + 1, 2, none⟩ = some (.string p) := hy.cell 2
    have y3 : w1.cell? ⟨W.heap.size + 1, 3, none⟩ = some (.slice a0 hs.length cap0) := hy.cell 3
    have y4 : w1.cell? ⟨W.heap.size + 1, 4, none⟩ = some (.string b) := hy.cell 4
    have hly := hy.lt
    clear hb1 hy
    go_wp2_with fail
    refine (HSH.out _ HB1.out).mono ?_
    rintro e w2 ⟨rfl, hb2⟩
    have HB2 := hid (HB1.out.trans (hb2.mono HB1.out.size))
    have HQ2 := hid (HQ1.out.trans (hb2.mono HQ1.out.size))
    clear hb2 y0 y1 y2 y3 y4 hly
    go_wp2_with fail
    refine (HK.out _).mono ?_
    rintro e w9 ⟨rfl, hb9⟩
    have HB9 := hid (HB2.out.trans (hb9.mono HB2.out.size))
    clear hb9
    go_wp2_with fail
    go_ret
    exact ⟨rfl, HB9.out⟩
  have hshort := C11.short_len hrs
  have hn6 : hs.length ≤ 1000000 := by omega
  have hps : ∀ r ∈ l, r.preds.length ≤ 1000000000 := by
    unfold fewT at hrt
    rw [Bool.and_eq_true] at hrt
    intro r hr
    have := Rl.few_preds hrt.2 r hr
    omega
  obtain ⟨x, hx⟩ : ∃ x, ofR m h p hs l x0 x1 x2 false = x := ⟨_, rfl⟩
  obtain ⟨q, hqq⟩ : ∃ q, sampR m h p hs l x0 = q := ⟨_, rfl⟩
  have HA1 := hid (fun w' (hw : Below W.heap.size W w') => of_any n l a cap f m h p b hs a0 cap0 w' (ht.below hw) (hq.below hw) hw.size hn6 hps x0 x1 x2 false x hx)
  have HA2 := hid (fun w' (hw : Below W.heap.size W w') => of_any n l a cap f m h p b hs a0 cap0 w' (ht.below hw) (hq.below hw) hw.size hn6 hps (x0 + 100 * b0) (x1 + 100 * b1) (x2 + 100 * b2) false x ((of_more m h p hs l x0 x1 x2 b0 b1 b2).trans hx))
  have HA3 := hid (fun w' (hw : Below W.heap.size W w') => samp_any n l a cap f m h p b hs a0 cap0 w' (ht.below hw) (hq.below hw) hw.size hn6 hps x0 q hqq)
  have HA4 := hid (fun w' (hw : Below W.heap.size W w') => samp_any n l a cap f m h p b hs a0 cap0 w' (ht.below hw) (hq.below hw) hw.size hn6 hps (x0 + 100 * b0) q ((samp_more m h p hs l x0 b0).trans hqq))
  have hee := eqAc_self x
  clear hrt hrs ht hq K hps hx hqq hshort hn6
  go_enter Try.func20, Try.ntmps20
  go_wp2_with fail
  refine (HF.out _ HB0.out).mono ?_
  rintro e w1 ⟨rfl, hb1⟩
  have HB1 := hid (HB0.out.trans (hb1.mono HB0.out.size))
  have HQ1 := hid hb1
  have hy := HY.out.later hb1
  have y0 : w1.cell? ⟨W.heap.size + 1, 0, none⟩ = some (.string m) := hy.cell 0
  have y1 : w1.cell? ⟨W.heap.size + 1, 1, none⟩ = some (.string h) := hy.cell 1
  have y2 : w1.cell? ⟨W.heap.size + 1, 2, none⟩ = some (.string p) := hy.cell 2
  have y3 : w1.cell? ⟨W.heap.size + 1, 3, none⟩ = some (.slice a0 hs.length cap0) := hy.cell 3
  have y4 : w1.cell? ⟨W.heap.size + 1, 4, none⟩ = some (.string b) := hy.cell 4
  have hly := hy.lt
  clear hb1 hy
  go_wp2_with fail
  refine (HSH.out _ HB1.out).mono ?_
  rintro e w2 ⟨rfl, hb2⟩
  have HB2 := hid (HB1.out.trans (hb2.mono HB1.out.size))
  have HQ2 := hid (HQ1.out.trans (hb2.mono HQ1.out.size))
  clear hb2 y0 y1 y2 y3 y4 hly
  have HC0 := hid (HX.out.later HQ2.out)
  have hx0 : w2.cell? ⟨W.heap.size + 2, 0, none⟩ = some (.int .i64 x0) := HC0.out.cell 0
  have hx1 : w2.cell? ⟨W.heap.size + 2, 1, none⟩ = some (.int .i64 x1) := HC0.out.cell 1
  have hx2 : w2.cell? ⟨W.heap.size + 2, 2, none⟩ = some (.int .i64 x2) := HC0.out.cell 2
  have hlx := HC0.out.lt
  go_wp2_with fail
  refine wp_gen ?_
  intro w3 hw3
  have HN0 : Hid (Blk w3 w2.heap.size (more x0 x1 x2 b0 b1 b2 0) 94) := hid (by rw [hw3]; exact Blk.new _ _ _)
  have HQ3 : Hid (Below ((((W.alloc (.cells #[.int .i64 n, .slice a l.length cap, .string f] 83)).alloc (.cells #[.string m, .string h, .string p, .slice a0 hs.length cap0, .string b] 59)).alloc (.cells #[.int .i64 x0, .int .i64 x1, .int .i64 x2] 94)).alloc (.cells #[.int .i8 b0, .int .i8 b1, .int .i8 b2] 102)).heap.size ((((W.alloc (.cells #[.int .i64 n, .slice a l.length cap, .string f] 83)).alloc (.cells #[.string m, .string h, .string p, .slice a0 hs.length cap0, .string b] 59)).alloc (.cells #[.int .i64 x0, .int .i64 x1, .int .i64 x2] 94)).alloc (.cells #[.int .i8 b0, .int .i8 b1, .int .i8 b2] 102)) w3) := hid (by rw [hw3]; exact HQ2.out.alloc HQ2.out.size _)
  have HG : Hid (((((W.alloc (.cells #[.int .i64 n, .slice a l.length cap, .string f] 83)).alloc (.cells #[.string m, .string h, .string p, .slice a0 hs.length cap0, .string b] 59)).alloc (.cells #[.int .i64 x0, .int .i64 x1, .int .i64 x2] 94)).alloc (.cells #[.int .i8 b0, .int .i8 b1, .int .i8 b2] 102)).heap.size ≤ w2.heap.size) := hid HQ2.out.size
  obtain ⟨N, hN⟩ : ∃ N, N = w2.heap.size := ⟨_, rfl⟩
  rw [← hN] at HN0 HG ⊢
  have HS0 : Hid (((((W.alloc (.cells #[.int .i64 n, .slice a l.length cap, .string f] 83)).alloc (.cells #[.string m, .string h, .string p, .slice a0 hs.length cap0, .string b] 59)).alloc (.cells #[.int .i64 x0, .int .i64 x1, .int .i64 x2] 94)).alloc (.cells #[.int .i8 b0, .int .i8 b1, .int .i8 b2] 102)).heap.size = W.heap.size + 4) := hid (by simp)
  have hNS : W.heap.size + 4 ≤ N := by have := HG.out; rw [HS0.out] at this; exact this
  clear hw3 hN hx0 hx1 hx2 hlx HC0 HQ2 HQ1 HG
  go_loopw [10] (fun i wr => ∃ k : Nat, k ≤ 3 ∧ i = .int .i64 k ∧ Only [N] w3 wr ∧ Blk wr N (more x0 x1 x2 b0 b1 b2 k) 94) (fun i _ => 3 - (intOf i).toNat)
  case atStart => exact ⟨0, by omega, rfl, Only.refl _ _, HN0.out⟩
  case round =>
    obtain ⟨k, hk, rfl, ho, hn⟩ := hrel
    have HO := hid ho
    have HN := hid hn
    have HW4 : Hid (∀ g cs t, Blk w3 g cs t → g ≠ N → Blk wr g cs t) := hid (fun g cs t hg hne => hg.only ho (by simpa using hne))
    have hkz := HW4.out _ _ _ (HZ.out.later HQ3.out) (by omega)
    have hky := HW4.out _ _ _ (HY.out.later HQ3.out) (by omega)
    have hkx := HW4.out _ _ _ (HX.out.later HQ3.out) (by omega)
    have hkv := HW4.out _ _ _ (HV.out.later HQ3.out) (by omega)
    have HBR : Hid (Below W.heap.size W wr) := hid ((HB0.out.trans (HQ3.out.mono HB0.out.size)).trans (ho.below (by have := (HB0.out.trans (HQ3.out.mono HB0.out.size)).size; exact this) (by intro j hj; rw [List.mem_singleton] at hj; omega)))
    have hlx := hkx.lt
    have hlv := hkv.lt
    have hlz := hkz.lt
    have hly := hky.lt
    have hln := hn.lt
    have q0 : wr.cell? ⟨W.heap.size + 2, 0, none⟩ = some (.int .i64 x0) := hkx.cell 0
    have q1 : wr.cell? ⟨W.heap.size + 2, 1, none⟩ = some (.int .i64 x1) := hkx.cell 1
    have q2 : wr.cell? ⟨W.heap.size + 2, 2, none⟩ = some (.int .i64 x2) := hkx.cell 2
    have v0 : wr.cell? ⟨W.heap.size + 3, 0, none⟩ = some (.int .i8 b0) := hkv.cell 0
    have v1 : wr.cell? ⟨W.heap.size + 3, 1, none⟩ = some (.int .i8 b1) := hkv.cell 1
    have v2 : wr.cell? ⟨W.heap.size + 3, 2, none⟩ = some (.int .i8 b2) := hkv.cell 2
    have HKZ := hid hkz
    have HKY := hid hky
    clear hkz hky hkx hkv ho hn HW4
    match k, hk with
    | 0, _ =>
      clear q1 v1 q2 v2
      by_cases s0 : x0 < -1000000
      · go_wp2_with fail
        refine (HK.out _).mono ?_
        rintro e w9 ⟨rfl, hb9⟩
        have HB9 := hid (HBR.out.trans (hb9.mono HBR.out.size))
        clear hb9
        go_wp2_with fail
        go_ret
        exact ⟨rfl, HB9.out⟩
      by_cases s1 : 1000000 < x0
      · go_wp2_with fail
        refine (HK.out _).mono ?_
        rintro e w9 ⟨rfl, hb9⟩
        have HB9 := hid (HBR.out.trans (hb9.mono HBR.out.size))
        clear hb9
        go_wp2_with fail
        go_ret
        exact ⟨rfl, HB9.out⟩
      have nc := HN.out.cell 0
      have nf := HN.out.free 0
      have nc' : wr.cell? ⟨N, 0, none⟩ = some (.int .i64 x0) := nc
      have e1 : IntKind.i64.wrap (100 * b0) = 100 * b0 := IntWalk.i64_in _ (by omega)
      have e2 : IntKind.i64.wrap (x0 + 100 * b0) = x0 + 100 * b0 := IntWalk.i64_in _ (by omega)
      have hne1 : ¬ N = W.heap.size + 2 := by omega
      have hne2 : ¬ N = W.heap.size + 3 := by omega
      have HNX : Hid (Blk (wr.drew.setCell ⟨N, 0, none⟩ (.int .i64 (x0 + 100 * b0))) N (more x0 x1 x2 b0 b1 b2 1) 94) := hid (HN.out.drew.set 0 _)
      have HOX : Hid (Only [N] w3 (wr.drew.setCell ⟨N, 0, none⟩ (.int .i64 (x0 + 100 * b0)))) := hid (HO.out.drew.setCell (by simp) _)
      clear nc
      go_wp2_with fail
      go_region_held3 (fun w' => w'.cell? ⟨W.heap.size + 2, 0, none⟩ = some (.int .i64 x0) ∧ w'.cell? ⟨W.heap.size + 3, 0, none⟩ = some (.int .i8 b0))
        (go_keep) (fail)
      all_goals
        go_wp2_with fail
        go_roundw
        case rel => exact ⟨1, by omega, by go_num, HOX.out, HNX.out⟩
        case measure => simp [intOf]
    | 1, _ =>
      clear q0 v0 q2 v2
      by_cases s0 : x1 < -1000000
      · go_wp2_with fail
        refine (HK.out _).mono ?_
        rintro e w9 ⟨rfl, hb9⟩
        have HB9 := hid (HBR.out.trans (hb9.mono HBR.out.size))
        clear hb9
        go_wp2_with fail
        go_ret
        exact ⟨rfl, HB9.out⟩
      by_cases s1 : 1000000 < x1
      · go_wp2_with fail
        refine (HK.out _).mono ?_
        rintro e w9 ⟨rfl, hb9⟩
        have HB9 := hid (HBR.out.trans (hb9.mono HBR.out.size))
        clear hb9
        go_wp2_with fail
        go_ret
        exact ⟨rfl, HB9.out⟩
      have nc := HN.out.cell 1
      have nf := HN.out.free 1
      have nc' : wr.cell? ⟨N, 1, none⟩ = some (.int .i64 x1) := nc
      have e1 : IntKind.i64.wrap (100 * b1) = 100 * b1 := IntWalk.i64_in _ (by omega)
      have e2 : IntKind.i64.wrap (x1 + 100 * b1) = x1 + 100 * b1 := IntWalk.i64_in _ (by omega)
      have hne1 : ¬ N = W.heap.size + 2 := by omega
      have hne2 : ¬ N = W.heap.size + 3 := by omega
      have HNX : Hid (Blk (wr.drew.setCell ⟨N, 1, none⟩ (.int .i64 (x1 + 100 * b1))) N (more x0 x1 x2 b0 b1 b2 2) 94) := hid (HN.out.drew.set 1 _)
      have HOX : Hid (Only [N] w3 (wr.drew.setCell ⟨N, 1, none⟩ (.int .i64 (x1 + 100 * b1)))) := hid (HO.out.drew.setCell (by simp) _)
      clear nc
      go_wp2_with fail
      go_region_held3 (fun w' => w'.cell? ⟨W.heap.size + 2, 1, none⟩ = some (.int .i64 x1) ∧ w'.cell? ⟨W.heap.size + 3, 1, none⟩ = some (.int .i8 b1))
        (go_keep) (fail)
      all_goals
        go_wp2_with fail
        go_roundw
        case rel => exact ⟨2, by omega, by go_num, HOX.out, HNX.out⟩
        case measure => simp [intOf]
    | 2, _ =>
      clear q0 v0 q1 v1
      by_cases s0 : x2 < -1000000
      · go_wp2_with fail
        refine (HK.out _).mono ?_
        rintro e w9 ⟨rfl, hb9⟩
        have HB9 := hid (HBR.out.trans (hb9.mono HBR.out.size))
        clear hb9
        go_wp2_with fail
        go_ret
        exact ⟨rfl, HB9.out⟩
      by_cases s1 : 1000000 < x2
      · go_wp2_with fail
        refine (HK.out _).mono ?_
        rintro e w9 ⟨rfl, hb9⟩
        have HB9 := hid (HBR.out.trans (hb9.mono HBR.out.size))
        clear hb9
        go_wp2_with fail
        go_ret
        exact ⟨rfl, HB9.out⟩
      have nc := HN.out.cell 2
      have nf := HN.out.free 2
      have nc' : wr.cell? ⟨N, 2, none⟩ = some (.int .i64 x2) := nc
      have e1 : IntKind.i64.wrap (100 * b2) = 100 * b2 := IntWalk.i64_in _ (by omega)
      have e2 : IntKind.i64.wrap (x2 + 100 * b2) = x2 + 100 * b2 := IntWalk.i64_in _ (by omega)
      have hne1 : ¬ N = W.heap.size + 2 := by omega
      have hne2 : ¬ N = W.heap.size + 3 := by omega
      have HNX : Hid (Blk (wr.drew.setCell ⟨N, 2, none⟩ (.int .i64 (x2 + 100 * b2))) N (more x0 x1 x2 b0 b1 b2 3) 94) := hid (HN.out.drew.set 2 _)
      have HOX : Hid (Only [N] w3 (wr.drew.setCell ⟨N, 2, none⟩ (.int .i64 (x2 + 100 * b2)))) := hid (HO.out.drew.setCell (by simp) _)
      clear nc
      go_wp2_with fail
      go_region_held3 (fun w' => w'.cell? ⟨W.heap.size + 2, 2, none⟩ = some (.int .i64 x2) ∧ w'.cell? ⟨W.heap.size + 3, 2, none⟩ = some (.int .i8 b2))
        (go_keep) (fail)
      all_goals
        go_wp2_with fail
        go_roundw
        case rel => exact ⟨3, by omega, by go_num, HOX.out, HNX.out⟩
        case measure => simp [intOf]
    | 3, _ =>
      have hn := HN.out
      have t0 : wr.cell? ⟨W.heap.size, 0, none⟩ = some (.int .i64 n) := HKZ.out.cell 0
      have t1 : wr.cell? ⟨W.heap.size, 1, none⟩ = some (.slice a l.length cap) := HKZ.out.cell 1
      have t2 : wr.cell? ⟨W.heap.size, 2, none⟩ = some (.string f) := HKZ.out.cell 2
      have y0 : wr.cell? ⟨W.heap.size + 1, 0, none⟩ = some (.string m) := HKY.out.cell 0
      have y1 : wr.cell? ⟨W.heap.size + 1, 1, none⟩ = some (.string h) := HKY.out.cell 1
      have y2 : wr.cell? ⟨W.heap.size + 1, 2, none⟩ = some (.string p) := HKY.out.cell 2
      have y3 : wr.cell? ⟨W.heap.size + 1, 3, none⟩ = some (.slice a0 hs.length cap0) := HKY.out.cell 3
      have y4 : wr.cell? ⟨W.heap.size + 1, 4, none⟩ = some (.string b) := HKY.out.cell 4
      have n0 : wr.cell? ⟨N, 0, none⟩ = some (.int .i64 (x0 + 100 * b0)) := hn.cell 0
      have n1 : wr.cell? ⟨N, 1, none⟩ = some (.int .i64 (x1 + 100 * b1)) := hn.cell 1
      have n2 : wr.cell? ⟨N, 2, none⟩ = some (.int .i64 (x2 + 100 * b2)) := hn.cell 2
      have X1 : Hid (∀ x' : BW wr, Calls Try.prog 92 #[.agg #[.int .i64 n, .slice a l.length cap, .string f], .agg #[.string m, .string h, .string p, .slice a0 hs.length cap0, .string b], .agg #[.int .i64 x0, .int .i64 x1, .int .i64 x2], .bool false] x'.val fun e w' => e = .returned (.agg #[.int .i64 x.kind, .int .i64 x.rule, .string x.target, .int .i64 x.status, .int .i64 x.delay, .string x.mirror]) ∧ Below x'.val.heap.size x'.val w') := hid (fun x' => HA1.out _ (HBR.out.trans (x'.prop.mono HBR.out.size)))
      have X2 : Hid (∀ x' : BW wr, Calls Try.prog 92 #[.agg #[.int .i64 n, .slice a l.length cap, .string f], .agg #[.string m, .string h, .string p, .slice a0 hs.length cap0, .string b], .agg #[.int .i64 (x0 + 100 * b0), .int .i64 (x1 + 100 * b1), .int .i64 (x2 + 100 * b2)], .bool false] x'.val fun e w' => e = .returned (.agg #[.int .i64 x.kind, .int .i64 x.rule, .string x.target, .int .i64 x.status, .int .i64 x.delay, .string x.mirror]) ∧ Below x'.val.heap.size x'.val w') := hid (fun x' => HA2.out _ (HBR.out.trans (x'.prop.mono HBR.out.size)))
      have X3 : Hid (∀ x' : BW wr, Calls Try.prog 94 #[.agg #[.int .i64 n, .slice a l.length cap, .string f], .agg #[.string m, .string h, .string p, .slice a0 hs.length cap0, .string b], .int .i64 x0] x'.val fun e w' => e = .returned (.bool q) ∧ Below x'.val.heap.size x'.val w') := hid (fun x' => HA3.out _ (HBR.out.trans (x'.prop.mono HBR.out.size)))
      have X4 : Hid (∀ x' : BW wr, Calls Try.prog 94 #[.agg #[.int .i64 n, .slice a l.length cap, .string f], .agg #[.string m, .string h, .string p, .slice a0 hs.length cap0, .string b], .int .i64 (x0 + 100 * b0)] x'.val fun e w' => e = .returned (.bool q) ∧ Below x'.val.heap.size x'.val w') := hid (fun x' => HA4.out _ (HBR.out.trans (x'.prop.mono HBR.out.size)))
      clear hn HA1 HA2 HA3 HA4 HF HSH
      go_wp2_with fail
      refine wp_region_bw (by kernel_rfl) (by kernel_rfl) ?_
      iterate 4 (go_big_quiet_step ((go_at_call 92; exact bw_call (X1.out _))))
      iterate 4 (go_big_quiet_step ((go_at_call 92; exact bw_call (X2.out _))))
      iterate 7 (go_big_quiet_step ((go_at_call 94; exact bw_call (X3.out _))))
      repeat (go_big_quiet_step ((first | (go_at_call 94; exact bw_call (X4.out _)) | (go_at_call 91; exact bw_call (HK.out _)))))
      refine wpQuiet_nil ?_
      rintro w5 ⟨⟨_, hb5⟩, rfl⟩
      have HB5 := hid (HBR.out.trans (hb5.mono HBR.out.size))
      clear hb5
      go_wp2_with fail
      go_ret
      exact ⟨rfl, HB5.out⟩
end C16
end Go.Proofs.Ytpamnknfccmgcaa
