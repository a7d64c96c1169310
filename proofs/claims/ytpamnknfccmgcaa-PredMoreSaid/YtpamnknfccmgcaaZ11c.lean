/- Walks of layer 11 (pred): the laws; no condition. -/
import Derived.Test.YtpamnknfccmgcaaZ11
namespace Go.Proofs.Ytpamnknfccmgcaa
open Go.RowKit Go.Peri
namespace C11
set_option maxRecDepth 100000 in
set_option maxHeartbeats 8000000 in
theorem more_walk (K : Known) (v1 : Value) (l : List Prd) (k : Int) (n v m h p b : ByteArray) (hs : List Hd) (a0 : Option Addr) (cap0 : Nat) (j : Int) (W : World) (hn : n.size ≤ 140737488351232) (hv : v.size ≤ 140737488351232) (hl : RowsOf (· < W.heap.size) Prd.enc 3 W v1 l) (hll : l.length * 40 ≤ 140737488351232) (hlw : ∀ x ∈ l, x.Wf) (hq : ReqV W W.heap.size m h p b hs a0 cap0) :
    Calls Try.prog 11 #[v1, .agg #[.int .i64 k, .string n, .string v], .agg #[.string m, .string h, .string p, .slice a0 hs.length cap0, .string b], .int .i64 j] W fun e w' => e = .returned (.bool true) ∧ Below W.heap.size W w' := by
  have HK := hid K
  have HB0 : Hid (Below W.heap.size W ((W.alloc (.cells #[.int .i64 k, .string n, .string v] 54)).alloc (.cells #[.string m, .string h, .string p, .slice a0 hs.length cap0, .string b] 59))) := by show Below _ _ _; go_grown
  have HS0 : Hid (((W.alloc (.cells #[.int .i64 k, .string n, .string v] 54)).alloc (.cells #[.string m, .string h, .string p, .slice a0 hs.length cap0, .string b] 59)).heap.size = W.heap.size + 2) := hid (by simp)
  have HZ := hid ((Blk.new W #[.int .i64 k, .string n, .string v] 54).alloc (.cells #[.string m, .string h, .string p, .slice a0 hs.length cap0, .string b] 59))
  have HY := hid (Blk.new' (W.alloc (.cells #[.int .i64 k, .string n, .string v] 54)) #[.string m, .string h, .string p, .slice a0 hs.length cap0, .string b] 59 (n := W.heap.size + 1) (by simp))
  have KEEP : Hid (∀ w', Below ((W.alloc (.cells #[.int .i64 k, .string n, .string v] 54)).alloc (.cells #[.string m, .string h, .string p, .slice a0 hs.length cap0, .string b] 59)).heap.size ((W.alloc (.cells #[.int .i64 k, .string n, .string v] 54)).alloc (.cells #[.string m, .string h, .string p, .slice a0 hs.length cap0, .string b] 59)) w' → (w'.cell? ⟨W.heap.size, 0, none⟩ = some (.int .i64 k) ∧ w'.cell? ⟨W.heap.size, 1, none⟩ = some (.string n) ∧ w'.cell? ⟨W.heap.size, 2, none⟩ = some (.string v)) ∧ w'.cell? ⟨W.heap.size + 1, 0, none⟩ = some (.string m) ∧ w'.cell? ⟨W.heap.size + 1, 1, none⟩ = some (.string h) ∧ w'.cell? ⟨W.heap.size + 1, 2, none⟩ = some (.string p) ∧ w'.cell? ⟨W.heap.size + 1, 3, none⟩ = some (.slice a0 hs.length cap0) ∧ w'.cell? ⟨W.heap.size + 1, 4, none⟩ = some (.string b) ∧ W.heap.size + 1 < w'.heap.size ∧ W.heap.size < w'.heap.size) :=
    hid (fun w' hw => ⟨⟨(HZ.out.later hw).cell 0, (HZ.out.later hw).cell 1, (HZ.out.later hw).cell 2⟩, (HY.out.later hw).cell 0, (HY.out.later hw).cell 1, (HY.out.later hw).cell 2, (HY.out.later hw).cell 3, (HY.out.later hw).cell 4, (HY.out.later hw).lt, (HZ.out.later hw).lt⟩)
  have HW : Hid (∀ w', Below ((W.alloc (.cells #[.int .i64 k, .string n, .string v] 54)).alloc (.cells #[.string m, .string h, .string p, .slice a0 hs.length cap0, .string b] 59)).heap.size ((W.alloc (.cells #[.int .i64 k, .string n, .string v] 54)).alloc (.cells #[.string m, .string h, .string p, .slice a0 hs.length cap0, .string b] 59)) w' → Below W.heap.size W w') := hid (fun w' hw => HB0.out.trans (hw.mono HB0.out.size))
  obtain ⟨rf, hrf⟩ : ∃ r, Prd.few l = r := ⟨_, rfl⟩
  obtain ⟨rs, hrs⟩ : ∃ r, short m h p b hs = r := ⟨_, rfl⟩
  have HL : Hid (∀ w', Below W.heap.size W w' → RowsOf (· < W.heap.size) Prd.enc 3 w' v1 l ∧ ∀ b, b < W.heap.size → b < w'.heap.size) := hid (fun w' hw => ⟨hl.below hw (fun b hb => hb), fun b hb => Nat.lt_of_lt_of_le hb hw.size⟩)
  have HR : Hid (∀ w', Below W.heap.size W w' → RowsOf (· < W.heap.size) Hd.enc 2 w' (.slice a0 hs.length cap0) hs ∧ ∀ b, b < W.heap.size → b < w'.heap.size) := hid (fun w' hw => ⟨hq.rows.below hw (fun b hb => hb), fun b hb => Nat.lt_of_lt_of_le hb hw.size⟩)
  have HF := hid (fun w' (hw : Below W.heap.size W w') => few_any v1 l rf w' (HL.out w' hw).1 (HL.out w' hw).2 hlw (by omega) hrf)
  have HSH := hid (fun w' (hw : Below W.heap.size W w') => short_any m h p b hs a0 cap0 rs w' (HR.out w' hw).1 (HR.out w' hw).2 hq.wf (by have := hq.len; omega) hq.m hq.h hq.p hq.b hrs)
  have HP4 : p.size ≤ 140737488351232 := hq.p
  obtain ⟨av, cv, rfl⟩ := hl.form
  obtain ⟨⟨kp0, kp1, kp2⟩, kq0, kq1, kq2, kq3, kq4, klt, klt2⟩ := KEEP.out _ (Below.refl _ _)
  have hlq := hid hq.len
  clear K HZ HY hl hlw hq
  by_cases h4 : n.size + v.size ≤ 400
  · have g1 : ¬ (400 : Int) < (n.size : Int) + (v.size : Int) := by omega
    clear h4
    cases rf
    · clear hrf hrs
      go_enter Try.func11, Try.ntmps11
      go_wp2_with fail
      refine (HF.out _ HB0.out).mono ?_
      rintro e w1 ⟨rfl, hb1⟩
      have HB1 := hid (HB0.out.trans (hb1.mono HB0.out.size))
      clear hb1
      go_wp2_with fail
      refine (HK.out _).mono ?_
      rintro e w9 ⟨rfl, hb9⟩
      have HB9 := hid (HB1.out.trans (hb9.mono HB1.out.size))
      clear hb9
      go_wp2_with fail
      go_ret
      exact ⟨rfl, HB9.out⟩
    cases rs
    · clear hrf hrs
      go_enter Try.func11, Try.ntmps11
      go_wp2_with fail
      refine (HF.out _ HB0.out).mono ?_
      rintro e w1 ⟨rfl, hb1⟩
      have HB1 := hid (HB0.out.trans (hb1.mono HB0.out.size))
      obtain ⟨⟨j0, j1, j2⟩, j3, j4, j5, j6, j7, j8, j9⟩ := KEEP.out _ hb1
      clear hb1
      go_wp2_with fail
      refine (HSH.out _ HB1.out).mono ?_
      rintro e w2 ⟨rfl, hb2⟩
      have HB2 := hid (HB1.out.trans (hb2.mono HB1.out.size))
      clear hb2
      go_wp2_with fail
      refine (HK.out _).mono ?_
      rintro e w9 ⟨rfl, hb9⟩
      have HB9 := hid (HB2.out.trans (hb9.mono HB2.out.size))
      clear hb9
      go_wp2_with fail
      go_ret
      exact ⟨rfl, HB9.out⟩
    have hshort := short_len hrs
    have hfew := Prd.few_len hrf
    have hn6 : hs.length ≤ 1000000 := by omega
    have hl9 : l.length ≤ 1000000000 := by omega
    obtain ⟨r1, hr1⟩ : ∃ r, matchR k n v m h p hs = r := ⟨_, rfl⟩
    obtain ⟨r2, hr2⟩ : ∃ r, allR m h p hs l = r := ⟨_, rfl⟩
    have HM1 := hid (fun w' (hw : Below W.heap.size W w') => pmatch_any k n v m h p b hs (.slice a0 hs.length cap0) r1 w' (HR.out w' hw).1 (HR.out w' hw).2 hn6 hr1)
    have HM2 := hid (fun w' (hw : Below W.heap.size W w') => rmatch_any k n v m h p b hs (.slice a0 hs.length cap0) r1 w' (HR.out w' hw).1 (HR.out w' hw).2 hn6 hr1)
    have HA1 := hid (fun w' (hw : Below W.heap.size W w') => all_any (.slice av l.length cv) l m h p b hs a0 cap0 r2 w' (HL.out w' hw).1 (HL.out w' hw).2 (HR.out w' hw).1 (HR.out w' hw).2 hn6 hl9 hr2)
    have HA2 := hid (fun w' (hw : Below W.heap.size W w') => rall_any (.slice av l.length cv) l m h p b hs a0 cap0 r2 w' (HL.out w' hw).1 (HL.out w' hw).2 (HR.out w' hw).1 (HR.out w' hw).2 hn6 hl9 hr2)
    have hr3 : allR m h p hs (l ++ [⟨k, n, v⟩]) = (r2 && r1) := by
      rw [← hr2, ← hr1]
      unfold allR
      rw [List.all_append]
      simp
    have HA3 := hid (fun (u : Value) w' (hu : Reads Prd.enc 3 w' u (l ++ [⟨k, n, v⟩])) (hw : Below W.heap.size W w') => by
      obtain ⟨pp, hp1, hp2⟩ := hu
      exact all_any u (l ++ [⟨k, n, v⟩]) m h p b hs a0 cap0 (r2 && r1) w' hp2 hp1 (HR.out w' hw).1 (HR.out w' hw).2 hn6 (by simp; omega) hr3)
    have HME := hid (fun w' (hw : Below W.heap.size W w') => pmatch_any 3 ⟨#[]⟩ p m h p b hs (.slice a0 hs.length cap0) true w' (HR.out w' hw).1 (HR.out w' hw).2 hn6 (by unfold matchR; simp))
    have HMP := hid (fun (q : ByteArray) (hq : prefR p q = true) w' (hw : Below W.heap.size W w') => pmatch_any 4 ⟨#[]⟩ q m h p b hs (.slice a0 hs.length cap0) true w' (HR.out w' hw).1 (HR.out w' hw).2 hn6 (by unfold matchR; simpa using hq))
    have hl20 : l.length ≤ 20 := hfew
    clear hr1 hr2 hr3 hrf hrs hshort hfew hn6 hl9
    go_enter Try.func11, Try.ntmps11
    go_wp2_with fail
    refine (HF.out _ HB0.out).mono ?_
    rintro e w1 ⟨rfl, hb1⟩
    have HB1 := hid (HB0.out.trans (hb1.mono HB0.out.size))
    have HQ1 := hid hb1
    obtain ⟨⟨j0, j1, j2⟩, j3, j4, j5, j6, j7, j8, j9⟩ := KEEP.out _ hb1
    clear hb1
    go_wp2_with fail
    refine (HSH.out _ HB1.out).mono ?_
    rintro e w2 ⟨rfl, hb2⟩
    have HB2 := hid (HB1.out.trans (hb2.mono HB1.out.size))
    have HQ2 := hid (HQ1.out.trans (hb2.mono HQ1.out.size))
    obtain ⟨⟨i0, i1, i2⟩, i3, i4, i5, i6, i7, i8, i9⟩ := KEEP.out _ HQ2.out
    clear hb2 j0 j1 j2 j3 j4 j5 j6 j7 j8 j9
    have HCZ : Hid (Cellz (· < W.heap.size) 3 w2 (.slice av l.length cv) l.length (l.flatMap Prd.enc)) := hid ((HL.out _ HB2.out).1.cellz Prd.enc_length)
    go_wp2_with (at_builtin; refine wpList_pushCells elemP rfl _ _ rfl w2.heap.size _ 0 [] rfl (World.ownsRow_nil _ _ _ _) rfl HCZ.out (Prd.one l) ?_ ?_ ?_ ?_)
    · unfold maxLen; omega
    · omega
    · omega
    intro u3 w3 hown3 hb3
    have HQ3 := hid (HQ2.out.trans (hb3.mono HQ2.out.size))
    have HO3 : Hid (w3.ownsRow w2.heap.size 54 3 u3 l.length (l.flatMap Prd.enc)) := hid (by simpa using hown3)
    obtain ⟨⟨j0, j1, j2⟩, j3, j4, j5, j6, j7, j8, j9⟩ := KEEP.out _ HQ3.out
    have HSZ3 : Hid (w2.heap.size ≤ w3.heap.size) := hid hb3.size
    clear hown3 hb3 i0 i1 i2 i3 i4 i5 i6 i7 i8 i9
    go_wp2_with (at_builtin; refine wpList_pushH elemP rfl _ _ rfl w2.heap.size _ _ _ [.int .i64 k, .string n, .string v] rfl HO3.out rfl w3.heap.size rfl rfl rfl (by simp [Value.oneCell']) ?_ ?_ ?_ ?_)
    · unfold maxLen; omega
    · omega
    · exact HSZ3.out
    intro u4 w4 hown4 hb4
    have HQ4 : Hid (Below ((W.alloc (.cells #[.int .i64 k, .string n, .string v] 54)).alloc (.cells #[.string m, .string h, .string p, .slice a0 hs.length cap0, .string b] 59)).heap.size ((W.alloc (.cells #[.int .i64 k, .string n, .string v] 54)).alloc (.cells #[.string m, .string h, .string p, .slice a0 hs.length cap0, .string b] 59)) w4) := hid (HQ3.out.trans (hb4.mono (Nat.le_trans HQ2.out.size (Nat.le_refl _))))
    have HB4 := hid (HB0.out.trans (HQ4.out.mono HB0.out.size))
    have HRD : Hid (Reads Prd.enc 3 w4 u4 (l ++ [⟨k, n, v⟩])) := hid (Reads.owns Prd.enc_length (by rw [List.length_append, List.flatMap_append]; exact hown4))
    obtain ⟨⟨i0, i1, i2⟩, i3, i4, i5, i6, i7, i8, i9⟩ := KEEP.out _ HQ4.out
    obtain ⟨a4, c4, rfl⟩ := HRD.out.form
    clear hown4 hb4 j0 j1 j2 j3 j4 j5 j6 j7 j8 j9
    have X1 : Hid (∀ x : BW w4, Calls Try.prog 61 #[.agg #[.int .i64 k, .string n, .string v], .agg #[.string m, .string h, .string p, .slice a0 hs.length cap0, .string b]] x.val fun e w' => e = .returned (.bool r1) ∧ Below x.val.heap.size x.val w') := hid (fun x => HM1.out _ (HB4.out.trans (x.prop.mono HB4.out.size)))
    have X3 : Hid (∀ x : BW w4, Calls Try.prog 63 #[.slice av l.length cv, .agg #[.string m, .string h, .string p, .slice a0 hs.length cap0, .string b]] x.val fun e w' => e = .returned (.bool r2) ∧ Below x.val.heap.size x.val w') := hid (fun x => HA1.out _ (HB4.out.trans (x.prop.mono HB4.out.size)))
    have X5 : Hid (∀ x : BW w4, Calls Try.prog 63 #[.slice a4 (l ++ [⟨k, n, v⟩] : List Prd).length c4, .agg #[.string m, .string h, .string p, .slice a0 hs.length cap0, .string b]] x.val fun e w' => e = .returned (.bool (r2 && r1)) ∧ Below x.val.heap.size x.val w') := hid (fun x => HA3.out _ _ (HRD.out.later x.prop) (HB4.out.trans (x.prop.mono HB4.out.size)))
    clear HM1 HM2 HA1 HA2 HF HSH HL HW HA3
    generalize (l ++ [(⟨k, n, v⟩ : Prd)]).length = ln at X5 HRD
    obtain ⟨r3, hr3⟩ : ∃ r, (r2 && r1) = r := ⟨_, rfl⟩
    rw [hr3] at X5
    have HR3 := hid hr3
    clear hr3
    have hne : (r3 != (r2 && r1)) = false := by rw [HR3.out]; simp
    have HAND : Hid (r3 = (r2 && r1)) := hid HR3.out.symm
    have big : ∀ (w5 : World), Below w4.heap.size w4 w5 → True := fun _ _ => trivial
    clear big hne
    rcases r2 with _ | _
    all_goals rcases r1 with _ | _
    all_goals
      have hr := HAND.out
      simp only [Bool.and_true, Bool.and_false, Bool.true_and, Bool.false_and] at hr
      subst hr
      clear HR3 HAND
      go_wp2_with fail
      refine wp_region_bw (by kernel_rfl) (by kernel_rfl) ?_
      go_big_quiet_step ((go_at_call 63; exact bw_call (X5.out _)))
      go_big_quiet_step ((go_at_call 63; exact bw_call (X5.out _)))
      go_big_quiet_step ((go_at_call 63; exact bw_call (X5.out _)))
      repeat (go_big_quiet_step ((first | (go_at_call 61; exact bw_call (X1.out _)) | (go_at_call 63; exact bw_call (X3.out _)))))
      refine wpQuiet_nil ?_
      rintro w5 ⟨⟨_, hb5⟩, rfl⟩
      have HB5 := hid (HB4.out.trans (hb5.mono HB4.out.size))
      have HQ5 := hid (HQ4.out.trans (hb5.mono HQ4.out.size))
      obtain ⟨⟨j0, j1, j2⟩, j3, j4, j5, j6, j7, j8, j9⟩ := KEEP.out _ HQ5.out
      clear hb5 i0 i1 i2 i3 i4 i5 i6 i7 i8 i9
      by_cases s0 : j < 0
      · go_wp2_with fail

        refine (HK.out _).mono ?_
        rintro e w9 ⟨rfl, hb9⟩
        have HB9 := hid (HB5.out.trans (hb9.mono HB5.out.size))
        clear hb9
        go_wp2_with fail
        go_ret
        exact ⟨rfl, HB9.out⟩
      obtain ⟨jn, rfl⟩ := Int.eq_ofNat_of_zero_le (show 0 ≤ j by omega)
      clear s0
      by_cases s1 : (p.size : Int) < (jn : Int)
      · go_wp2_with fail

        refine (HK.out _).mono ?_
        rintro e w9 ⟨rfl, hb9⟩
        have HB9 := hid (HB5.out.trans (hb9.mono HB5.out.size))
        clear hb9
        go_wp2_with fail
        go_ret
        exact ⟨rfl, HB9.out⟩
      have X6 : Hid (∀ x : BW w5, Calls Try.prog 61 #[.agg #[.int .i64 4, .string ⟨#[]⟩, .string (p.extract 0 jn)], .agg #[.string m, .string h, .string p, .slice a0 hs.length cap0, .string b]] x.val fun e w' => e = .returned (.bool true) ∧ Below x.val.heap.size x.val w') := hid (fun x => HMP.out _ (prefR_self p jn (by omega)) _ (HB5.out.trans (x.prop.mono HB5.out.size)))
      have X7 : Hid (∀ x : BW w5, Calls Try.prog 61 #[.agg #[.int .i64 3, .string ⟨#[]⟩, .string p], .agg #[.string m, .string h, .string p, .slice a0 hs.length cap0, .string b]] x.val fun e w' => e = .returned (.bool true) ∧ Below x.val.heap.size x.val w') := hid (fun x => HME.out _ (HB5.out.trans (x.prop.mono HB5.out.size)))
      have s2 : (jn : Int) ≤ (p.size : Int) := by omega
      go_wp2_with fail
      refine wp_region_bw (by kernel_rfl) (by kernel_rfl) ?_
      iterate 7 (go_big_quiet_step ((go_at_call 61; exact bw_call (X6.out _))))
      repeat (go_big_quiet_step ((first | (go_at_call 61; exact bw_call (X7.out _)) | (go_at_call 56; exact bw_call (HK.out _)))))
      refine wpQuiet_nil ?_
      rintro w6 ⟨⟨_, hb6⟩, rfl⟩
      have HB6 := hid (HB5.out.trans (hb6.mono HB5.out.size))
      clear hb6
      go_wp2_with fail
      go_ret
      exact ⟨rfl, HB6.out⟩
  · have g1 : (400 : Int) < (n.size : Int) + (v.size : Int) := by omega
    clear h4 hrf hrs
    go_enter Try.func11, Try.ntmps11
    go_wp2_with fail
    refine (HK.out _).mono ?_
    rintro e w9 ⟨rfl, hb9⟩
    have HB9 := hid (HB0.out.trans (hb9.mono HB0.out.size))
    clear hb9
    go_wp2_with fail
    go_ret
    exact ⟨rfl, HB9.out⟩
end C11
end Go.Proofs.Ytpamnknfccmgcaa
