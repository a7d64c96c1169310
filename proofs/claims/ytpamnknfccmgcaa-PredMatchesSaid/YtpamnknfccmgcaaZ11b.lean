/- Walks of layer 11 (pred): the laws; no condition. -/
import Derived.Test.YtpamnknfccmgcaaZ11
namespace Go.Proofs.Ytpamnknfccmgcaa
open Go.RowKit Go.Peri
namespace C11
set_option maxRecDepth 100000 in
set_option maxHeartbeats 4000000 in
theorem matches_walk (K : Known) (v1 : Value) (l : List Prd) (k : Int) (n v m h p b : ByteArray) (hs : List Hd) (a0 : Option Addr) (cap0 : Nat) (W : World) (hn : n.size ≤ 140737488351232) (hv : v.size ≤ 140737488351232) (hl : RowsOf (· < W.heap.size) Prd.enc 3 W v1 l) (hll : l.length * 40 ≤ 140737488351232) (hlw : ∀ x ∈ l, x.Wf) (hq : ReqV W W.heap.size m h p b hs a0 cap0) :
    Calls Try.prog 10 #[.agg #[.int .i64 k, .string n, .string v], v1, .agg #[.string m, .string h, .string p, .slice a0 hs.length cap0, .string b]] W fun e w' => e = .returned (.bool true) ∧ Below W.heap.size W w' := by
  have HK := hid K
  have HB0 : Hid (Below W.heap.size W ((W.alloc (.cells #[.int .i64 k, .string n, .string v] 54)).alloc (.cells #[.string m, .string h, .string p, .slice a0 hs.length cap0, .string b] 59))) := by show Below _ _ _; go_grown
  have HS0 : Hid (((W.alloc (.cells #[.int .i64 k, .string n, .string v] 54)).alloc (.cells #[.string m, .string h, .string p, .slice a0 hs.length cap0, .string b] 59)).heap.size = W.heap.size + 2) := hid (by simp)
  have HZ := hid ((Blk.new W #[.int .i64 k, .string n, .string v] 54).alloc (.cells #[.string m, .string h, .string p, .slice a0 hs.length cap0, .string b] 59))
  have HY := hid (Blk.new' (W.alloc (.cells #[.int .i64 k, .string n, .string v] 54)) #[.string m, .string h, .string p, .slice a0 hs.length cap0, .string b] 59 (n := W.heap.size + 1) (by simp))
  have KEEP : Hid (∀ w', Below ((W.alloc (.cells #[.int .i64 k, .string n, .string v] 54)).alloc (.cells #[.string m, .string h, .string p, .slice a0 hs.length cap0, .string b] 59)).heap.size ((W.alloc (.cells #[.int .i64 k, .string n, .string v] 54)).alloc (.cells #[.string m, .string h, .string p, .slice a0 hs.length cap0, .string b] 59)) w' → (w'.cell? ⟨W.heap.size, 0, none⟩ = some (.int .i64 k) ∧ w'.cell? ⟨W.heap.size, 1, none⟩ = some (.string n) ∧ w'.cell? ⟨W.heap.size, 2, none⟩ = some (.string v)) ∧ w'.cell? ⟨W.heap.size + 1, 0, none⟩ = some (.string m) ∧ w'.cell? ⟨W.heap.size + 1, 1, none⟩ = some (.string h) ∧ w'.cell? ⟨W.heap.size + 1, 2, none⟩ = some (.string p) ∧ w'.cell? ⟨W.heap.size + 1, 3, none⟩ = some (.slice a0 hs.length cap0) ∧ w'.cell? ⟨W.heap.size + 1, 4, none⟩ = some (.string b) ∧ W.heap.size + 1 < w'.heap.size ∧ W.heap.size < w'.heap.size) :=
    hid (fun w' hw => ⟨⟨(HZ.out.later hw).cell 0, (HZ.out.later hw).cell 1, (HZ.out.later hw).cell 2⟩, (HY.out.later hw).cell 0, (HY.out.later hw).cell 1, (HY.out.later hw).cell 2, (HY.out.later hw).cell 3, (HY.out.later hw).cell 4, (HY.out.later hw).lt, (HZ.out.later hw).lt⟩)
  have HW : Hid (∀ w', Below ((W.alloc (.cells #[.int .i64 k, .string n, .string v] 54)).alloc (.cells #[.string m, .string h, .string p, .slice a0 hs.length cap0, .string b] 59)).heap.size ((W.alloc (.cells #[.int .i64 k, .string n, .string v] 54)).alloc (.cells #[.string m, .string h, .string p, .slice a0 hs.length cap0, .string b] 59)) w' → Below W.heap.size W w') := hid (fun w' hw => HB0.out.trans (hw.mono HB0.out.size))
  obtain ⟨rf, hrf⟩ : ∃ r, Prd.few l = r := ⟨_, rfl⟩
  obtain ⟨rs, hrs⟩ : ∃ r, short m h p b hs = r := ⟨_, rfl⟩
  have HL : Hid (∀ w', Below W.heap.size W w' → RowsOf (· < W.heap.size) Prd.enc 3 w' v1 l ∧ ∀ b, b < W.heap.size → b < w'.heap.size) := hid (fun w' hw => ⟨hl.below hw (fun b hb => hb), fun b hb => Nat.lt_of_lt_of_le hb hw.size⟩)
  have HR : Hid (∀ w', Below W.heap.size W w' → RowsOf (· < W.heap.size) Hd.enc 2 w' (.slice a0 hs.length cap0) hs ∧ ∀ b, b < W.heap.size → b < w'.heap.size) := hid (fun w' hw => ⟨hq.rows.below hw (fun b hb => hb), fun b hb => Nat.lt_of_lt_of_le hb hw.size⟩)
  have HF := hid (fun w' (hw : Below W.heap.size W w') => few_any v1 l rf w' (HL.out w' hw).1 (HL.out w' hw).2 hlw (by omega) hrf)
  have HSH := hid (fun w' (hw : Below W.heap.size W w') => short_any m h p b hs a0 cap0 rs w' (HR.out w' hw).1 (HR.out w' hw).2 hq.wf (by have := hq.len; omega) hq.m hq.h hq.p hq.b hrs)
  have HP4 : p.size ≤ 140737488351232 := hq.p
  obtain ⟨av, cv, rfl⟩ := hl.form
  obtain ⟨⟨kp0, kp1, kp2⟩, kq0, kq1, kq2, kq3, kq4, klt, klt2⟩ := KEEP.out _ (Below.refl _ _)
  have hlq := hid hq.len
  clear K HZ HY hl hlw hq
  by_cases h4 : n.size + v.size ≤ 400
  · have g1 : ¬ (400 : Int) < (n.size : Int) + (v.size : Int) := by omega
    clear h4
    cases rf
    · clear hrf hrs
      go_enter Try.func10, Try.ntmps10
      go_wp2_with fail
      refine (HF.out _ HB0.out).mono ?_
      rintro e w1 ⟨rfl, hb1⟩
      have HB1 := hid (HB0.out.trans (hb1.mono HB0.out.size))
      clear hb1
      go_wp2_with fail
      refine (HK.out _).mono ?_
      rintro e w9 ⟨rfl, hb9⟩
      have HB9 := hid (HB1.out.trans (hb9.mono HB1.out.size))
      clear hb9
      go_wp2_with fail
      go_ret
      exact ⟨rfl, HB9.out⟩
    cases rs
    · clear hrf hrs
      go_enter Try.func10, Try.ntmps10
      go_wp2_with fail
      refine (HF.out _ HB0.out).mono ?_
      rintro e w1 ⟨rfl, hb1⟩
      have HB1 := hid (HB0.out.trans (hb1.mono HB0.out.size))
      obtain ⟨⟨j0, j1, j2⟩, j3, j4, j5, j6, j7, j8, j9⟩ := KEEP.out _ hb1
      clear hb1
      go_wp2_with fail
      refine (HSH.out _ HB1.out).mono ?_
      rintro e w2 ⟨rfl, hb2⟩
      have HB2 := hid (HB1.out.trans (hb2.mono HB1.out.size))
      clear hb2
      go_wp2_with fail
      refine (HK.out _).mono ?_
      rintro e w9 ⟨rfl, hb9⟩
      have HB9 := hid (HB2.out.trans (hb9.mono HB2.out.size))
      clear hb9
      go_wp2_with fail
      go_ret
      exact ⟨rfl, HB9.out⟩
    have hshort := short_len hrs
    have hfew := Prd.few_len hrf
    have hn6 : hs.length ≤ 1000000 := by omega
    have hl9 : l.length ≤ 1000000000 := by omega
    obtain ⟨r1, hr1⟩ : ∃ r, matchR k n v m h p hs = r := ⟨_, rfl⟩
    obtain ⟨r2, hr2⟩ : ∃ r, allR m h p hs l = r := ⟨_, rfl⟩
    have HM1 := hid (fun w' (hw : Below W.heap.size W w') => pmatch_any k n v m h p b hs (.slice a0 hs.length cap0) r1 w' (HR.out w' hw).1 (HR.out w' hw).2 hn6 hr1)
    have HM2 := hid (fun w' (hw : Below W.heap.size W w') => rmatch_any k n v m h p b hs (.slice a0 hs.length cap0) r1 w' (HR.out w' hw).1 (HR.out w' hw).2 hn6 hr1)
    have HA1 := hid (fun w' (hw : Below W.heap.size W w') => all_any (.slice av l.length cv) l m h p b hs a0 cap0 r2 w' (HL.out w' hw).1 (HL.out w' hw).2 (HR.out w' hw).1 (HR.out w' hw).2 hn6 hl9 hr2)
    have HA2 := hid (fun w' (hw : Below W.heap.size W w') => rall_any (.slice av l.length cv) l m h p b hs a0 cap0 r2 w' (HL.out w' hw).1 (HL.out w' hw).2 (HR.out w' hw).1 (HR.out w' hw).2 hn6 hl9 hr2)
    have e1 : (r1 == r1) = true := by simp
    have e2 : (r2 == r2) = true := by simp
    clear hr1 hr2 hrf hrs hshort hfew hn6 hl9
    go_enter Try.func10, Try.ntmps10
    go_wp2_with fail
    refine (HF.out _ HB0.out).mono ?_
    rintro e w1 ⟨rfl, hb1⟩
    have HB1 := hid (HB0.out.trans (hb1.mono HB0.out.size))
    have HQ1 := hid hb1
    obtain ⟨⟨j0, j1, j2⟩, j3, j4, j5, j6, j7, j8, j9⟩ := KEEP.out _ hb1
    clear hb1
    go_wp2_with fail
    refine (HSH.out _ HB1.out).mono ?_
    rintro e w2 ⟨rfl, hb2⟩
    have HB2 := hid (HB1.out.trans (hb2.mono HB1.out.size))
    have HQ2 := hid (HQ1.out.trans (hb2.mono HQ1.out.size))
    obtain ⟨⟨i0, i1, i2⟩, i3, i4, i5, i6, i7, i8, i9⟩ := KEEP.out _ HQ2.out
    clear hb2 j0 j1 j2 j3 j4 j5 j6 j7 j8 j9
    have X1 : Hid (∀ x : BW w2, Calls Try.prog 61 #[.agg #[.int .i64 k, .string n, .string v], .agg #[.string m, .string h, .string p, .slice a0 hs.length cap0, .string b]] x.val fun e w' => e = .returned (.bool r1) ∧ Below x.val.heap.size x.val w') := hid (fun x => HM1.out _ (HB2.out.trans (x.prop.mono HB2.out.size)))
    have X2 : Hid (∀ x : BW w2, Calls Try.prog 62 #[.agg #[.int .i64 k, .string n, .string v], .agg #[.string m, .string h, .string p, .slice a0 hs.length cap0, .string b]] x.val fun e w' => e = .returned (.bool r1) ∧ Below x.val.heap.size x.val w') := hid (fun x => HM2.out _ (HB2.out.trans (x.prop.mono HB2.out.size)))
    have X3 : Hid (∀ x : BW w2, Calls Try.prog 63 #[.slice av l.length cv, .agg #[.string m, .string h, .string p, .slice a0 hs.length cap0, .string b]] x.val fun e w' => e = .returned (.bool r2) ∧ Below x.val.heap.size x.val w') := hid (fun x => HA1.out _ (HB2.out.trans (x.prop.mono HB2.out.size)))
    have X4 : Hid (∀ x : BW w2, Calls Try.prog 64 #[.slice av l.length cv, .agg #[.string m, .string h, .string p, .slice a0 hs.length cap0, .string b]] x.val fun e w' => e = .returned (.bool r2) ∧ Below x.val.heap.size x.val w') := hid (fun x => HA2.out _ (HB2.out.trans (x.prop.mono HB2.out.size)))
    clear HM1 HM2 HA1 HA2 HF HSH HL HR HW KEEP kp0 kp1 kp2 kq0 kq1 kq2 kq3 kq4 klt klt2
    go_wp2_with fail
    refine wp_region_bw (by kernel_rfl) (by kernel_rfl) ?_
    repeat (go_big_quiet_step ((first | (go_at_call 61; exact bw_call (X1.out _)) | (go_at_call 62; exact bw_call (X2.out _)) | (go_at_call 63; exact bw_call (X3.out _)) | (go_at_call 64; exact bw_call (X4.out _)) | (go_at_call 56; exact bw_call (HK.out _)))))
    refine wpQuiet_nil ?_
    rintro w3 ⟨⟨_, hb3⟩, rfl⟩
    have HB3 := hid (HB2.out.trans (hb3.mono HB2.out.size))
    clear hb3
    go_wp2_with fail
    go_ret
    exact ⟨rfl, HB3.out⟩
  · have g1 : (400 : Int) < (n.size : Int) + (v.size : Int) := by omega
    clear h4 hrf hrs
    go_enter Try.func10, Try.ntmps10
    go_wp2_with fail
    refine (HK.out _).mono ?_
    rintro e w9 ⟨rfl, hb9⟩
    have HB9 := hid (HB0.out.trans (hb9.mono HB0.out.size))
    clear hb9
    go_wp2_with fail
    go_ret
    exact ⟨rfl, HB9.out⟩
end C11
end Go.Proofs.Ytpamnknfccmgcaa
