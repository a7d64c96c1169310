/- Walks of layer 16 (decide): DecideSays; no condition. -/
import Derived.Test.YtpamnknfccmgcaaJ16
namespace Go.Proofs.Ytpamnknfccmgcaa
open Go.RowKit Go.Peri
namespace C16
set_option maxRecDepth 100000 in
set_option maxHeartbeats 4000000 in
theorem says_walk (K : Known) (n : Int) (l : List Rl) (a : Option Addr) (cap : Nat) (f : ByteArray) (m h p b : ByteArray) (hs : List Hd) (a0 : Option Addr) (cap0 : Nat) (x0 x1 x2 : Int) (sh : Bool) (W : World) (ht : TabV W W.heap.size l a cap f) (hq : ReqV W W.heap.size m h p b hs a0 cap0) :
    Calls Try.prog 18 #[.agg #[.int .i64 n, .slice a l.length cap, .string f], .agg #[.string m, .string h, .string p, .slice a0 hs.length cap0, .string b], .agg #[.int .i64 x0, .int .i64 x1, .int .i64 x2], .bool sh] W fun e w' => e = .returned (.bool true) ∧ Below W.heap.size W w' := by
  have HK := hid K
  have HB0 : Hid (Below W.heap.size W (((W.alloc (.cells #[.int .i64 n, .slice a l.length cap, .string f] 83)).alloc (.cells #[.string m, .string h, .string p, .slice a0 hs.length cap0, .string b] 59)).alloc (.cells #[.int .i64 x0, .int .i64 x1, .int .i64 x2] 94))) := by show Below _ _ _; go_grown
  have HZ := hid (((Blk.new W #[.int .i64 n, .slice a l.length cap, .string f] 83).alloc (.cells #[.string m, .string h, .string p, .slice a0 hs.length cap0, .string b] 59)).alloc (.cells #[.int .i64 x0, .int .i64 x1, .int .i64 x2] 94))
  have HY := hid ((Blk.new' (W.alloc (.cells #[.int .i64 n, .slice a l.length cap, .string f] 83)) #[.string m, .string h, .string p, .slice a0 hs.length cap0, .string b] 59 (n := W.heap.size + 1) (by simp)).alloc (.cells #[.int .i64 x0, .int .i64 x1, .int .i64 x2] 94))
  have HX := hid (Blk.new' ((W.alloc (.cells #[.int .i64 n, .slice a l.length cap, .string f] 83)).alloc (.cells #[.string m, .string h, .string p, .slice a0 hs.length cap0, .string b] 59)) #[.int .i64 x0, .int .i64 x1, .int .i64 x2] 94 (n := W.heap.size + 2) (by simp))
  obtain ⟨rt, hrt⟩ : ∃ r, fewT l f = r := ⟨_, rfl⟩
  obtain ⟨rs, hrs⟩ : ∃ r, C11.short m h p b hs = r := ⟨_, rfl⟩
  have HF := hid (fun w' (hw : Below W.heap.size W w') => fewT_any n l a cap f rt w' (ht.below hw) hw.size hrt)
  have HSH := hid (fun w' (hw : Below W.heap.size W w') => C11.short_any m h p b hs a0 cap0 rs w' (hq.rows.below hw (fun _ h => h)) (fun b hb => Nat.lt_of_lt_of_le hb hw.size) hq.wf (by have := hq.len; omega) hq.m hq.h hq.p hq.b hrs)
  cases rt
  · clear hrt hrs ht hq K
    go_enter Try.func18, Try.ntmps18
    go_wp2_with fail
    refine (HF.out _ HB0.out).mono ?_
    rintro e w1 ⟨rfl, hb1⟩
    have HB1 := hid (HB0.out.trans (hb1.mono HB0.out.size))
    clear hb1
    go_wp2_with fail
    refine (HK.out _).mono ?_
    rintro e w9 ⟨rfl, hb9⟩
    have HB9 := hid (HB1.out.trans (hb9.mono HB1.out.size))
    clear hb9
    go_wp2_with fail
    go_ret
    exact ⟨rfl, HB9.out⟩
  cases rs
  · clear hrt hrs ht hq K
    go_enter Try.func18, Try.ntmps18
    go_wp2_with fail
    refine (HF.out _ HB0.out).mono ?_
    rintro e w1 ⟨rfl, hb1⟩
    have HB1 := hid (HB0.out.trans (hb1.mono HB0.out.size))
    have hy := HY.out.later hb1
    have y0 : w1.cell? ⟨W.heap.size + 1, 0, none⟩ = some (.string m) := hy.cell 0
    have y1 : w1.cell? ⟨W.heap.size + 1, 1, none⟩ = some (.string h) := hy.cell 1
    have y2 : w1.cell? ⟨W.heap.size + 1, 2, none⟩ = some (.string p) := hy.cell 2
    have y3 : w1.cell? ⟨W.heap.size + 1, 3, none⟩ = some (.slice a0 hs.length cap0) := hy.cell 3
    have y4 : w1.cell? ⟨W.heap.size + 1, 4, none⟩ = some (.string b) := hy.cell 4
    have hly := hy.lt
    clear hb1 hy
    go_wp2_with fail
    refine (HSH.out _ HB1.out).mono ?_
    rintro e w2 ⟨rfl, hb2⟩
    have HB2 := hid (HB1.out.trans (hb2.mono HB1.out.size))
    clear hb2
    go_wp2_with fail
    refine (HK.out _).mono ?_
    rintro e w9 ⟨rfl, hb9⟩
    have HB9 := hid (HB2.out.trans (hb9.mono HB2.out.size))
    clear hb9
    go_wp2_with fail
    go_ret
    exact ⟨rfl, HB9.out⟩
  have hshort := C11.short_len hrs
  have hn6 : hs.length ≤ 1000000 := by omega
  have hps : ∀ r ∈ l, r.preds.length ≤ 1000000000 := by
    unfold fewT at hrt
    rw [Bool.and_eq_true] at hrt
    intro r hr
    have := Rl.few_preds hrt.2 r hr
    omega
  obtain ⟨x, hx⟩ : ∃ x, ofR m h p hs l x0 x1 x2 sh = x := ⟨_, rfl⟩
  obtain ⟨q, hqq⟩ : ∃ q, sampR m h p hs l x0 = q := ⟨_, rfl⟩
  have HA1 := hid (fun w' (hw : Below W.heap.size W w') => of_any n l a cap f m h p b hs a0 cap0 w' (ht.below hw) (hq.below hw) hw.size hn6 hps x0 x1 x2 sh x hx)
  have HA2 := hid (fun w' (hw : Below W.heap.size W w') => rof_any n l a cap f m h p b hs a0 cap0 w' (ht.below hw) (hq.below hw) hw.size hn6 hps x0 x1 x2 sh x hx)
  have HA3 := hid (fun w' (hw : Below W.heap.size W w') => samp_any n l a cap f m h p b hs a0 cap0 w' (ht.below hw) (hq.below hw) hw.size hn6 hps x0 q hqq)
  have HA4 := hid (fun w' (hw : Below W.heap.size W w') => rsamp_any n l a cap f m h p b hs a0 cap0 w' (ht.below hw) (hq.below hw) hw.size hn6 hps x0 q hqq)
  have hee := eqAc_self x
  clear hrt hrs ht hq K hps hx hqq hshort hn6
  go_enter Try.func18, Try.ntmps18
  go_wp2_with fail
  refine (HF.out _ HB0.out).mono ?_
  rintro e w1 ⟨rfl, hb1⟩
  have HB1 := hid (HB0.out.trans (hb1.mono HB0.out.size))
  have HQ1 := hid hb1
  have hy := HY.out.later hb1
  have y0 : w1.cell? ⟨W.heap.size + 1, 0, none⟩ = some (.string m) := hy.cell 0
  have y1 : w1.cell? ⟨W.heap.size + 1, 1, none⟩ = some (.string h) := hy.cell 1
  have y2 : w1.cell? ⟨W.heap.size + 1, 2, none⟩ = some (.string p) := hy.cell 2
  have y3 : w1.cell? ⟨W.heap.size + 1, 3, none⟩ = some (.slice a0 hs.length cap0) := hy.cell 3
  have y4 : w1.cell? ⟨W.heap.size + 1, 4, none⟩ = some (.string b) := hy.cell 4
  have hly := hy.lt
  clear hb1 hy
  go_wp2_with fail
  refine (HSH.out _ HB1.out).mono ?_
  rintro e w2 ⟨rfl, hb2⟩
  have HB2 := hid (HB1.out.trans (hb2.mono HB1.out.size))
  have HQ2 := HQ1.out.trans (hb2.mono HQ1.out.size)
  have hk0 := HZ.out.later HQ2
  have hk1 := HY.out.later HQ2
  have hk2 := HX.out.later HQ2
  clear y0 y1 y2 y3 y4 hly
  have t0 : w2.cell? ⟨W.heap.size, 0, none⟩ = some (.int .i64 n) := hk0.cell 0
  have t1 : w2.cell? ⟨W.heap.size, 1, none⟩ = some (.slice a l.length cap) := hk0.cell 1
  have t2 : w2.cell? ⟨W.heap.size, 2, none⟩ = some (.string f) := hk0.cell 2
  have y0 : w2.cell? ⟨W.heap.size + 1, 0, none⟩ = some (.string m) := hk1.cell 0
  have y1 : w2.cell? ⟨W.heap.size + 1, 1, none⟩ = some (.string h) := hk1.cell 1
  have y2 : w2.cell? ⟨W.heap.size + 1, 2, none⟩ = some (.string p) := hk1.cell 2
  have y3 : w2.cell? ⟨W.heap.size + 1, 3, none⟩ = some (.slice a0 hs.length cap0) := hk1.cell 3
  have y4 : w2.cell? ⟨W.heap.size + 1, 4, none⟩ = some (.string b) := hk1.cell 4
  have z0 : w2.cell? ⟨W.heap.size + 2, 0, none⟩ = some (.int .i64 x0) := hk2.cell 0
  have z1 : w2.cell? ⟨W.heap.size + 2, 1, none⟩ = some (.int .i64 x1) := hk2.cell 1
  have z2 : w2.cell? ⟨W.heap.size + 2, 2, none⟩ = some (.int .i64 x2) := hk2.cell 2
  have hl0 := hk0.lt
  have hl1 := hk1.lt
  have hl2 := hk2.lt
  have X1 : Hid (∀ x' : BW w2, Calls Try.prog 92 #[.agg #[.int .i64 n, .slice a l.length cap, .string f], .agg #[.string m, .string h, .string p, .slice a0 hs.length cap0, .string b], .agg #[.int .i64 x0, .int .i64 x1, .int .i64 x2], .bool sh] x'.val fun e w' => e = .returned (.agg #[.int .i64 x.kind, .int .i64 x.rule, .string x.target, .int .i64 x.status, .int .i64 x.delay, .string x.mirror]) ∧ Below x'.val.heap.size x'.val w') := hid (fun x' => HA1.out _ (HB2.out.trans (x'.prop.mono HB2.out.size)))
  have X2 : Hid (∀ x' : BW w2, Calls Try.prog 93 #[.agg #[.int .i64 n, .slice a l.length cap, .string f], .agg #[.string m, .string h, .string p, .slice a0 hs.length cap0, .string b], .agg #[.int .i64 x0, .int .i64 x1, .int .i64 x2], .bool sh] x'.val fun e w' => e = .returned (.agg #[.int .i64 x.kind, .int .i64 x.rule, .string x.target, .int .i64 x.status, .int .i64 x.delay, .string x.mirror]) ∧ Below x'.val.heap.size x'.val w') := hid (fun x' => HA2.out _ (HB2.out.trans (x'.prop.mono HB2.out.size)))
  have X3 : Hid (∀ x' : BW w2, Calls Try.prog 94 #[.agg #[.int .i64 n, .slice a l.length cap, .string f], .agg #[.string m, .string h, .string p, .slice a0 hs.length cap0, .string b], .int .i64 x0] x'.val fun e w' => e = .returned (.bool q) ∧ Below x'.val.heap.size x'.val w') := hid (fun x' => HA3.out _ (HB2.out.trans (x'.prop.mono HB2.out.size)))
  have X4 : Hid (∀ x' : BW w2, Calls Try.prog 95 #[.agg #[.int .i64 n, .slice a l.length cap, .string f], .agg #[.string m, .string h, .string p, .slice a0 hs.length cap0, .string b], .int .i64 x0] x'.val fun e w' => e = .returned (.bool q) ∧ Below x'.val.heap.size x'.val w') := hid (fun x' => HA4.out _ (HB2.out.trans (x'.prop.mono HB2.out.size)))
  clear hb2 HQ2 hk0 hk1 hk2 HA1 HA2 HA3 HA4 HF HSH
  go_wp2_with fail
  refine wp_region_bw (by kernel_rfl) (by kernel_rfl) ?_
  repeat (go_big_quiet_step ((first | (go_at_call 92; exact bw_call (X1.out _)) | (go_at_call 93; exact bw_call (X2.out _)) | (go_at_call 94; exact bw_call (X3.out _)) | (go_at_call 95; exact bw_call (X4.out _)) | (go_at_call 91; exact bw_call (HK.out _)))))
  refine wpQuiet_nil ?_
  rintro w3 ⟨⟨_, hb3⟩, rfl⟩
  have HB3 := hid (HB2.out.trans (hb3.mono HB2.out.size))
  clear hb3
  go_wp2_with fail
  go_ret
  exact ⟨rfl, HB3.out⟩
end C16
end Go.Proofs.Ytpamnknfccmgcaa
