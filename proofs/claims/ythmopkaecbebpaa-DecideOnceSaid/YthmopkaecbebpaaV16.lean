/- Walks of layer 16 (decide): DecideOnce, where a rule aborts; no condition. -/
import Derived.Test.YthmopkaecbebpaaN16
namespace Go.Proofs.Ythmopkaecbebpaa
open Go.RowKit Go.Peri
namespace C16
attribute [-go_sem] World.setCell_alloc_past
set_option maxRecDepth 100000 in
set_option maxHeartbeats 8000000 in
theorem once_abort (K : Known) (n : Int) (l : List Rl) (a : Option Addr) (cap : Nat) (f : ByteArray) (m h p b : ByteArray) (hs : List Hd) (a0 : Option Addr) (cap0 : Nat) (x0 x1 x2 : Int) (W : World) (ht : TabV W W.heap.size l a cap f) (hq : ReqV W W.heap.size m h p b hs a0 cap0) (hrt : fewT l f = true) (hrs : C11.short m h p b hs = true) (k : Nat) (hk0 : k < l.length) (hr : lookR m h p hs l = k) (hap : 0 < l[k].ap) (hA1 : ofR m h p hs l x0 x1 x2 false = ⟨1, k, l[k].target, l[k].as_, 0, ByteArray.empty⟩) (hA2 : ofR m h p hs l x0 x1 x2 true = ⟨2, k, l[k].target, 0, 0, ByteArray.empty⟩) :
    Calls Try.prog 16 #[.agg #[.int .i64 n, .slice a l.length cap, .string f], .agg #[.string m, .string h, .string p, .slice a0 hs.length cap0, .string b], .agg #[.int .i64 x0, .int .i64 x1, .int .i64 x2]] W fun e w' => e = .returned (.bool true) ∧ Below W.heap.size W w' := by
  obtain ⟨rt, hrt0⟩ : ∃ r : Bool, r = true := ⟨_, rfl⟩
  obtain ⟨rs, hrs0⟩ : ∃ r : Bool, r = true := ⟨_, rfl⟩
  rw [← hrt0] at hrt
  rw [← hrs0] at hrs
  have HK := hid K
  have HB0 : Hid (Below W.heap.size W (((W.alloc (.cells #[.int .i64 n, .slice a l.length cap, .string f] 110)).alloc (.cells #[.string m, .string h, .string p, .slice a0 hs.length cap0, .string b] 113)).alloc (.cells #[.int .i64 x0, .int .i64 x1, .int .i64 x2] 114))) := by show Below _ _ _; go_grown
  have HZ := hid (((Blk.new W #[.int .i64 n, .slice a l.length cap, .string f] 110).alloc (.cells #[.string m, .string h, .string p, .slice a0 hs.length cap0, .string b] 113)).alloc (.cells #[.int .i64 x0, .int .i64 x1, .int .i64 x2] 114))
  have HY := hid ((Blk.new' (W.alloc (.cells #[.int .i64 n, .slice a l.length cap, .string f] 110)) #[.string m, .string h, .string p, .slice a0 hs.length cap0, .string b] 113 (n := W.heap.size + 1) (by simp)).alloc (.cells #[.int .i64 x0, .int .i64 x1, .int .i64 x2] 114))
  have HX := hid (Blk.new' ((W.alloc (.cells #[.int .i64 n, .slice a l.length cap, .string f] 110)).alloc (.cells #[.string m, .string h, .string p, .slice a0 hs.length cap0, .string b] 113)) #[.int .i64 x0, .int .i64 x1, .int .i64 x2] 114 (n := W.heap.size + 2) (by simp))
  have HF := hid (fun w' (hw : Below W.heap.size W w') => fewT_any n l a cap f rt w' (ht.below hw) hw.size hrt)
  have HSH := hid (fun w' (hw : Below W.heap.size W w') => C11.short_any m h p b hs a0 cap0 rs w' (hq.rows.below hw (fun _ h => h)) (fun b hb => Nat.lt_of_lt_of_le hb hw.size) hq.wf (by have := hq.len; omega) hq.m hq.h hq.p hq.b hrs)
  subst hrt0 hrs0
  have hshort := C11.short_len hrs
  have hn6 : hs.length ≤ 1000000 := by omega
  have hps : ∀ r ∈ l, r.preds.length ≤ 1000000000 := by
    unfold fewT at hrt
    rw [Bool.and_eq_true] at hrt
    intro r hr
    have := Rl.few_preds hrt.2 r hr
    omega
  have HA1 := hid (fun w' (hw : Below W.heap.size W w') => of_any n l a cap f m h p b hs a0 cap0 w' (ht.below hw) (hq.below hw) hw.size hn6 hps x0 x1 x2 false _ hA1)
  have HA2 := hid (fun w' (hw : Below W.heap.size W w') => of_any n l a cap f m h p b hs a0 cap0 w' (ht.below hw) (hq.below hw) hw.size hn6 hps x0 x1 x2 true _ hA2)
  have HA3 := hid (fun w' (hw : Below W.heap.size W w') => rlook_any n l a cap f m h p b hs a0 cap0 k w' (ht.below hw) (hq.below hw) hw.size hn6 hps hr)
  obtain ⟨⟨a9, cap9, e9, hlc, hcm, _, hcell⟩, hlen, _, _⟩ := ht
  cases e9
  obtain ⟨bb, off, ea, hpb, hc⟩ := hcell.resolve_left (by intro e; rw [e] at hk0; simp at hk0)
  have EA := hid ea
  have hbl0 : bb < W.heap.size := hpb
  have HCC := hid (fun w' (hw : Below W.heap.size W w') => Rl.cells (fun j u hu => (hw.cell (p := ⟨bb, off + k * 10 + j, none⟩) hbl0).trans (hc k hk0 j u hu)))
  clear hcell hc hrt hrs hq K hps hn6 hshort hA1 hA2 hr ea
  generalize l[k] = y at HCC HA1 HA2 hap
  go_enter Try.func16, Try.ntmps16
  go_wp2_with fail
  refine (HF.out _ HB0.out).mono ?_
  rintro e w1 ⟨rfl, hb1⟩
  have HB1 := hid (HB0.out.trans (hb1.mono HB0.out.size))
  have HQ1 := hid hb1
  have hy := HY.out.later hb1
  have y0 : w1.cell? ⟨W.heap.size + 1, 0, none⟩ = some (.string m) := hy.cell 0
  have y1 : w1.cell? ⟨W.heap.size + 1, 1, none⟩ = some (.string h) := hy.cell 1
  have y2 : w1.cell? ⟨W.heap.size + 1, 2, none⟩ = some (.string p) := hy.cell 2
  have y3 : w1.cell? ⟨W.heap.size + 1, 3, none⟩ = some (.slice a0 hs.length cap0) := hy.cell 3
  have y4 : w1.cell? ⟨W.heap.size + 1, 4, none⟩ = some (.string b) := hy.cell 4
  have hly := hy.lt
  clear hb1 hy
  go_wp2_with fail
  refine (HSH.out _ HB1.out).mono ?_
  rintro e w2 ⟨rfl, hb2⟩
  have HB2 := hid (HB1.out.trans (hb2.mono HB1.out.size))
  have HQ2 := hid (HQ1.out.trans (hb2.mono HQ1.out.size))
  clear hb2 y0 y1 y2 y3 y4 hly
  have KEEP2 : Hid (∀ w', Only [] w2 w' → w'.cell? ⟨W.heap.size, 0, none⟩ = some (.int .i64 n) ∧ w'.cell? ⟨W.heap.size, 1, none⟩ = some (.slice a l.length cap) ∧ w'.cell? ⟨W.heap.size, 2, none⟩ = some (.string f) ∧ w'.cell? ⟨W.heap.size + 1, 0, none⟩ = some (.string m) ∧ w'.cell? ⟨W.heap.size + 1, 1, none⟩ = some (.string h) ∧ w'.cell? ⟨W.heap.size + 1, 2, none⟩ = some (.string p) ∧ w'.cell? ⟨W.heap.size + 1, 3, none⟩ = some (.slice a0 hs.length cap0) ∧ w'.cell? ⟨W.heap.size + 1, 4, none⟩ = some (.string b) ∧ w'.cell? ⟨W.heap.size + 2, 0, none⟩ = some (.int .i64 x0) ∧ w'.cell? ⟨W.heap.size + 2, 1, none⟩ = some (.int .i64 x1) ∧ w'.cell? ⟨W.heap.size + 2, 2, none⟩ = some (.int .i64 x2)) := hid (fun w' hw0 => have hw : Below w2.heap.size w2 w' := hw0.nil; ⟨((HZ.out.later HQ2.out).later hw).cell 0, ((HZ.out.later HQ2.out).later hw).cell 1, ((HZ.out.later HQ2.out).later hw).cell 2, ((HY.out.later HQ2.out).later hw).cell 0, ((HY.out.later HQ2.out).later hw).cell 1, ((HY.out.later HQ2.out).later hw).cell 2, ((HY.out.later HQ2.out).later hw).cell 3, ((HY.out.later HQ2.out).later hw).cell 4, ((HX.out.later HQ2.out).later hw).cell 0, ((HX.out.later HQ2.out).later hw).cell 1, ((HX.out.later HQ2.out).later hw).cell 2⟩)
  have HLT : Hid (W.heap.size + 2 < w2.heap.size) := hid (HX.out.later HQ2.out).lt
  have X1 : Hid (∀ w', Only [] w2 w' → Calls Try.prog 68 #[.agg #[.int .i64 n, .slice a l.length cap, .string f], .agg #[.string m, .string h, .string p, .slice a0 hs.length cap0, .string b], .agg #[.int .i64 x0, .int .i64 x1, .int .i64 x2], .bool false] w' fun e w'' => e = .returned (.agg #[.int .i64 1, .int .i64 k, .string y.target, .int .i64 y.as_, .int .i64 0, .string ByteArray.empty]) ∧ Below w'.heap.size w' w'') := hid (fun w' hw => HA1.out _ (HB2.out.trans (hw.nil.mono HB2.out.size)))
  have X2 : Hid (∀ w', Only [] w2 w' → Calls Try.prog 68 #[.agg #[.int .i64 n, .slice a l.length cap, .string f], .agg #[.string m, .string h, .string p, .slice a0 hs.length cap0, .string b], .agg #[.int .i64 x0, .int .i64 x1, .int .i64 x2], .bool true] w' fun e w'' => e = .returned (.agg #[.int .i64 2, .int .i64 k, .string y.target, .int .i64 0, .int .i64 0, .string ByteArray.empty]) ∧ Below w'.heap.size w' w'') := hid (fun w' hw => HA2.out _ (HB2.out.trans (hw.nil.mono HB2.out.size)))
  have hlt := HLT.out
  clear HA1 HA2 HF HSH HQ1 HZ HY HX
  go_upto_region 3 with fail
  go_cut [7, 8] (fun s7 s8 wx => OnceQ ⟨1, k, y.target, y.as_, 0, ByteArray.empty⟩ ⟨2, k, y.target, 0, 0, ByteArray.empty⟩ w2 s7 s8 wx)
  case first =>
    clear HB2 HQ2 HB1 HK HA3
    go_region_held3 (fun w' => w'.cell? ⟨W.heap.size, 0, none⟩ = some (.int .i64 n) ∧ w'.cell? ⟨W.heap.size, 1, none⟩ = some (.slice a l.length cap) ∧ w'.cell? ⟨W.heap.size, 2, none⟩ = some (.string f) ∧ w'.cell? ⟨W.heap.size + 1, 0, none⟩ = some (.string m) ∧ w'.cell? ⟨W.heap.size + 1, 1, none⟩ = some (.string h) ∧ w'.cell? ⟨W.heap.size + 1, 2, none⟩ = some (.string p) ∧ w'.cell? ⟨W.heap.size + 1, 3, none⟩ = some (.slice a0 hs.length cap0) ∧ w'.cell? ⟨W.heap.size + 1, 4, none⟩ = some (.string b) ∧ w'.cell? ⟨W.heap.size + 2, 0, none⟩ = some (.int .i64 x0) ∧ w'.cell? ⟨W.heap.size + 2, 1, none⟩ = some (.int .i64 x1) ∧ w'.cell? ⟨W.heap.size + 2, 2, none⟩ = some (.int .i64 x2))
      (exact KEEP2.out _ (by repeat' (first | (guard_target =ₛ Only [] w2 w2; exact Only.refl _ _) | (guard_target =ₛ Only [] w2 w4; exact q4) | (guard_target =ₛ Only [] w2 w3; exact q3) | (with_reducible refine Only.drew ?_) | (with_reducible refine Only.alloc ?_ _) | (with_reducible refine Only.setNew ?_ ?_ _) | (first | omega | (simp; done) | (simp; omega)))))
      ((first
        | (go_at_call 68; (with_reducible refine (X1.out _ ?_).mono ?_); (focus (repeat' (first | (guard_target =ₛ Only [] w2 w2; exact Only.refl _ _) | (guard_target =ₛ Only [] w2 w4; exact q4) | (guard_target =ₛ Only [] w2 w3; exact q3) | (with_reducible refine Only.drew ?_) | (with_reducible refine Only.alloc ?_ _) | (with_reducible refine Only.setNew ?_ ?_ _) | (first | omega | (simp; done) | (simp; omega))))); rintro e w3 ⟨rfl, hb3⟩; have q3 : Only [] w2 w3 := Only.trans (a := w2) (by repeat' (first | (guard_target =ₛ Only [] w2 w2; exact Only.refl _ _) | (guard_target =ₛ Only [] w2 w4; exact q4) | (guard_target =ₛ Only [] w2 w3; exact q3) | (with_reducible refine Only.drew ?_) | (with_reducible refine Only.alloc ?_ _) | (with_reducible refine Only.setNew ?_ ?_ _) | (first | omega | (simp; done) | (simp; omega)))) (Only.of_below hb3); have l3 := q3.size; have ho3 : Only [] _ w3 := Only.of_below hb3; (first
          | (guard_hyp ho3 :ₛ Only [] w2.drew w3)
          | (guard_hyp ho3 :ₛ Only [] (w2.alloc (.cells #[.int .i64 0, .int .i64 0, .string ⟨#[]⟩, .int .i64 0, .int .i64 0, .string ⟨#[]⟩] (118 : Nat))).drew w3; have bx0 : Blk w3 w2.heap.size #[.int .i64 0, .int .i64 0, .string ⟨#[]⟩, .int .i64 0, .int .i64 0, .string ⟨#[]⟩] 118 := (Blk.new w2 #[.int .i64 0, .int .i64 0, .string ⟨#[]⟩, .int .i64 0, .int .i64 0, .string ⟨#[]⟩] 118).drew.later hb3; have bx0l := bx0.lt; have bx0n := Nat.ne_of_lt bx0l; have bx0m := bx0n.symm)
          | (guard_hyp ho3 :ₛ Only [] ((w2.alloc (.cells #[.int .i64 0, .int .i64 0, .string ⟨#[]⟩, .int .i64 0, .int .i64 0, .string ⟨#[]⟩] (118 : Nat))).alloc (.cells #[.int .i64 0, .int .i64 0, .string ⟨#[]⟩, .int .i64 0, .int .i64 0, .string ⟨#[]⟩] (118 : Nat))).drew w3; have bx0 : Blk w3 w2.heap.size #[.int .i64 0, .int .i64 0, .string ⟨#[]⟩, .int .i64 0, .int .i64 0, .string ⟨#[]⟩] 118 := ((Blk.new w2 #[.int .i64 0, .int .i64 0, .string ⟨#[]⟩, .int .i64 0, .int .i64 0, .string ⟨#[]⟩] 118).alloc _).drew.later hb3; have bx1 : Blk w3 (w2.heap.size + 1) #[.int .i64 0, .int .i64 0, .string ⟨#[]⟩, .int .i64 0, .int .i64 0, .string ⟨#[]⟩] 118 := (Blk.new' (w2.alloc (.cells #[.int .i64 0, .int .i64 0, .string ⟨#[]⟩, .int .i64 0, .int .i64 0, .string ⟨#[]⟩] (118 : Nat))) #[.int .i64 0, .int .i64 0, .string ⟨#[]⟩, .int .i64 0, .int .i64 0, .string ⟨#[]⟩] 118 (by simp)).drew.later hb3; have bx0l := bx0.lt; have bx0n := Nat.ne_of_lt bx0l; have bx0m := bx0n.symm; have bx1l := bx1.lt; have bx1n := Nat.ne_of_lt bx1l; have bx1m := bx1n.symm)))
        | (go_at_call 68; (with_reducible refine (X2.out _ ?_).mono ?_); (focus (repeat' (first | (guard_target =ₛ Only [] w2 w2; exact Only.refl _ _) | (guard_target =ₛ Only [] w2 w4; exact q4) | (guard_target =ₛ Only [] w2 w3; exact q3) | (with_reducible refine Only.drew ?_) | (with_reducible refine Only.alloc ?_ _) | (with_reducible refine Only.setNew ?_ ?_ _) | (first | omega | (simp; done) | (simp; omega))))); rintro e w4 ⟨rfl, hb4⟩; have q4 : Only [] w2 w4 := Only.trans (a := w2) (by repeat' (first | (guard_target =ₛ Only [] w2 w2; exact Only.refl _ _) | (guard_target =ₛ Only [] w2 w4; exact q4) | (guard_target =ₛ Only [] w2 w3; exact q3) | (with_reducible refine Only.drew ?_) | (with_reducible refine Only.alloc ?_ _) | (with_reducible refine Only.setNew ?_ ?_ _) | (first | omega | (simp; done) | (simp; omega)))) (Only.of_below hb4); have l4 := q4.size; have ho4 : Only [] _ w4 := Only.of_below hb4; (first
          | (guard_hyp ho4 :ₛ Only [] w3 w4; (try have cx0 := bx0.later hb4); (try have cx1 := bx1.later hb4))
          | (guard_hyp ho4 :ₛ Only [] (w3.alloc (.cells #[.int .i64 0, .int .i64 0, .string ⟨#[]⟩, .int .i64 0, .int .i64 0, .string ⟨#[]⟩] (118 : Nat))) w4; (try have cx0 := (bx0.alloc (.cells #[.int .i64 0, .int .i64 0, .string ⟨#[]⟩, .int .i64 0, .int .i64 0, .string ⟨#[]⟩] (118 : Nat))).later hb4); (try have cx1 := (bx1.alloc (.cells #[.int .i64 0, .int .i64 0, .string ⟨#[]⟩, .int .i64 0, .int .i64 0, .string ⟨#[]⟩] (118 : Nat))).later hb4); have by0 : Blk w4 w3.heap.size #[.int .i64 0, .int .i64 0, .string ⟨#[]⟩, .int .i64 0, .int .i64 0, .string ⟨#[]⟩] 118 := (Blk.new w3 #[.int .i64 0, .int .i64 0, .string ⟨#[]⟩, .int .i64 0, .int .i64 0, .string ⟨#[]⟩] 118).later hb4)
          | (guard_hyp ho4 :ₛ Only [] ((w3.alloc (.cells #[.int .i64 0, .int .i64 0, .string ⟨#[]⟩, .int .i64 0, .int .i64 0, .string ⟨#[]⟩] (118 : Nat))).alloc (.cells #[.int .i64 0, .int .i64 0, .string ⟨#[]⟩, .int .i64 0, .int .i64 0, .string ⟨#[]⟩] (118 : Nat))) w4; (try have cx0 := ((bx0.alloc (.cells #[.int .i64 0, .int .i64 0, .string ⟨#[]⟩, .int .i64 0, .int .i64 0, .string ⟨#[]⟩] (118 : Nat))).alloc (.cells #[.int .i64 0, .int .i64 0, .string ⟨#[]⟩, .int .i64 0, .int .i64 0, .string ⟨#[]⟩] (118 : Nat))).later hb4); (try have cx1 := ((bx1.alloc (.cells #[.int .i64 0, .int .i64 0, .string ⟨#[]⟩, .int .i64 0, .int .i64 0, .string ⟨#[]⟩] (118 : Nat))).alloc (.cells #[.int .i64 0, .int .i64 0, .string ⟨#[]⟩, .int .i64 0, .int .i64 0, .string ⟨#[]⟩] (118 : Nat))).later hb4); have by0 : Blk w4 w3.heap.size #[.int .i64 0, .int .i64 0, .string ⟨#[]⟩, .int .i64 0, .int .i64 0, .string ⟨#[]⟩] 118 := ((Blk.new w3 #[.int .i64 0, .int .i64 0, .string ⟨#[]⟩, .int .i64 0, .int .i64 0, .string ⟨#[]⟩] 118).alloc _).later hb4; have by1 : Blk w4 (w3.heap.size + 1) #[.int .i64 0, .int .i64 0, .string ⟨#[]⟩, .int .i64 0, .int .i64 0, .string ⟨#[]⟩] 118 := (Blk.new' (w3.alloc (.cells #[.int .i64 0, .int .i64 0, .string ⟨#[]⟩, .int .i64 0, .int .i64 0, .string ⟨#[]⟩] (118 : Nat))) #[.int .i64 0, .int .i64 0, .string ⟨#[]⟩, .int .i64 0, .int .i64 0, .string ⟨#[]⟩] 118 (by simp)).later hb4)); (try (have cx0c0 : w4.cell? ⟨w2.heap.size, 0, none⟩ = some (.int .i64 0) := cx0.cell 0; have cx0f0 := cx0.free 0; have cx0c1 : w4.cell? ⟨w2.heap.size, 1, none⟩ = some (.int .i64 0) := cx0.cell 1; have cx0f1 := cx0.free 1; have cx0c2 : w4.cell? ⟨w2.heap.size, 2, none⟩ = some (.string ⟨#[]⟩) := cx0.cell 2; have cx0f2 := cx0.free 2; have cx0c3 : w4.cell? ⟨w2.heap.size, 3, none⟩ = some (.int .i64 0) := cx0.cell 3; have cx0f3 := cx0.free 3; have cx0c4 : w4.cell? ⟨w2.heap.size, 4, none⟩ = some (.int .i64 0) := cx0.cell 4; have cx0f4 := cx0.free 4; have cx0c5 : w4.cell? ⟨w2.heap.size, 5, none⟩ = some (.string ⟨#[]⟩) := cx0.cell 5; have cx0f5 := cx0.free 5; have cx0l := cx0.lt; have cx0n := Nat.ne_of_lt cx0l; have cx0m := cx0n.symm)); (try (have cx1c0 : w4.cell? ⟨w2.heap.size + 1, 0, none⟩ = some (.int .i64 0) := cx1.cell 0; have cx1f0 := cx1.free 0; have cx1c1 : w4.cell? ⟨w2.heap.size + 1, 1, none⟩ = some (.int .i64 0) := cx1.cell 1; have cx1f1 := cx1.free 1; have cx1c2 : w4.cell? ⟨w2.heap.size + 1, 2, none⟩ = some (.string ⟨#[]⟩) := cx1.cell 2; have cx1f2 := cx1.free 2; have cx1c3 : w4.cell? ⟨w2.heap.size + 1, 3, none⟩ = some (.int .i64 0) := cx1.cell 3; have cx1f3 := cx1.free 3; have cx1c4 : w4.cell? ⟨w2.heap.size + 1, 4, none⟩ = some (.int .i64 0) := cx1.cell 4; have cx1f4 := cx1.free 4; have cx1c5 : w4.cell? ⟨w2.heap.size + 1, 5, none⟩ = some (.string ⟨#[]⟩) := cx1.cell 5; have cx1f5 := cx1.free 5; have cx1l := cx1.lt; have cx1n := Nat.ne_of_lt cx1l; have cx1m := cx1n.symm)); (try (have by0c0 : w4.cell? ⟨w3.heap.size, 0, none⟩ = some (.int .i64 0) := by0.cell 0; have by0f0 := by0.free 0; have by0c1 : w4.cell? ⟨w3.heap.size, 1, none⟩ = some (.int .i64 0) := by0.cell 1; have by0f1 := by0.free 1; have by0c2 : w4.cell? ⟨w3.heap.size, 2, none⟩ = some (.string ⟨#[]⟩) := by0.cell 2; have by0f2 := by0.free 2; have by0c3 : w4.cell? ⟨w3.heap.size, 3, none⟩ = some (.int .i64 0) := by0.cell 3; have by0f3 := by0.free 3; have by0c4 : w4.cell? ⟨w3.heap.size, 4, none⟩ = some (.int .i64 0) := by0.cell 4; have by0f4 := by0.free 4; have by0c5 : w4.cell? ⟨w3.heap.size, 5, none⟩ = some (.string ⟨#[]⟩) := by0.cell 5; have by0f5 := by0.free 5; have by0l := by0.lt; have by0n := Nat.ne_of_lt by0l; have by0m := by0n.symm)); (try (have by1c0 : w4.cell? ⟨w3.heap.size + 1, 0, none⟩ = some (.int .i64 0) := by1.cell 0; have by1f0 := by1.free 0; have by1c1 : w4.cell? ⟨w3.heap.size + 1, 1, none⟩ = some (.int .i64 0) := by1.cell 1; have by1f1 := by1.free 1; have by1c2 : w4.cell? ⟨w3.heap.size + 1, 2, none⟩ = some (.string ⟨#[]⟩) := by1.cell 2; have by1f2 := by1.free 2; have by1c3 : w4.cell? ⟨w3.heap.size + 1, 3, none⟩ = some (.int .i64 0) := by1.cell 3; have by1f3 := by1.free 3; have by1c4 : w4.cell? ⟨w3.heap.size + 1, 4, none⟩ = some (.int .i64 0) := by1.cell 4; have by1f4 := by1.free 4; have by1c5 : w4.cell? ⟨w3.heap.size + 1, 5, none⟩ = some (.string ⟨#[]⟩) := by1.cell 5; have by1f5 := by1.free 5; have by1l := by1.lt; have by1n := Nat.ne_of_lt by1l; have by1m := by1n.symm)))))
    all_goals
      go_wp2_with fail
      go_meet
      show OnceQ _ _ _ _ _ _
      refine ⟨_, _, rfl, rfl, ?_, ?_, ?_, ?_, ?_, ?_⟩
      · (first | omega | (simp; done) | (simp; omega))
      · exact Only.nil (by repeat' (first | (guard_target =ₛ Only [] w2 w2; exact Only.refl _ _) | (guard_target =ₛ Only [] w2 w4; exact q4) | (guard_target =ₛ Only [] w2 w3; exact q3) | (with_reducible refine only6 ?_ ?_) | (with_reducible refine Only.drew ?_) | (with_reducible refine Only.alloc ?_ _) | (with_reducible refine Only.setNew ?_ ?_ _) | (first | omega | (simp; done) | (simp; omega))))
      · (first | omega | (simp; done) | (simp; omega))
      · (first | omega | (simp; done) | (simp; omega))
      · repeat' (first | (with_reducible refine put6 ?_) | (with_reducible refine put6o ?_ ?_) | exact Blk.new _ _ _ | (refine Blk.new' _ _ _ ?_; (focus (first | omega | (simp; done)))) | (with_reducible refine Blk.alloc ?_ _) | (with_reducible assumption) | (first | omega | (simp; done) | (simp; omega)))
      · repeat' (first | (with_reducible refine put6 ?_) | (with_reducible refine put6o ?_ ?_) | exact Blk.new _ _ _ | (refine Blk.new' _ _ _ ?_; (focus (first | omega | (simp; done)))) | (with_reducible refine Blk.alloc ?_ _) | (with_reducible assumption) | (first | omega | (simp; done) | (simp; omega)))
  case rest =>
  obtain ⟨g7, g8, rfl, rfl, hne, hbx, hg7, hg8, hk7, hk8⟩ := hcut
  have HK7 := hid hk7
  have HK8 := hid hk8
  have HBX := hid (HB2.out.trans (hbx.mono HB2.out.size))
  have HBXX := hid hbx
  clear hbx hk7 hk8 X1 X2
  obtain ⟨t0, t1, t2, y0, y1, y2, y3, y4, d0, d1, d2⟩ := KEEP2.out _ (Only.of_below HBXX.out)
  have hlz : W.heap.size < wc.heap.size := by have := HBXX.out.size; omega
  have hly : W.heap.size + 1 < wc.heap.size := by have := HBXX.out.size; omega
  go_wp2_with fail
  refine (HA3.out _ HBX.out).mono ?_
  rintro e w5 ⟨rfl, hb5⟩
  have HB5 := hid (HBX.out.trans (hb5.mono HBX.out.size))
  have HL7 := hid (HK7.out.later hb5)
  have HL8 := hid (HK8.out.later hb5)
  obtain ⟨c0, c1, c2, c3, c4, c5, c6, c7, c8, c9⟩ := HCC.out w5 HB5.out
  have hbl : bb < w5.heap.size := Nat.lt_of_lt_of_le hbl0 HB5.out.size
  have t1' : w5.cell? ⟨W.heap.size, 1, none⟩ = some (.slice (some ⟨bb, off, none⟩) l.length cap) := by rw [← EA.out]; exact (hb5.cell (p := ⟨W.heap.size, 1, none⟩) hlz).trans t1
  have hlz5 : W.heap.size < w5.heap.size := Nat.lt_of_lt_of_le hlz hb5.size
  clear hb5 t0 t1 t2 y0 y1 y2 y3 y4 d0 d1 d2 hlz hly
  go_upto_region 8 with fail
  refine wp_gen ?_
  intro w6 hw6
  have ak : Blk w6 g7 #[.int .i64 1, .int .i64 k, .string y.target, .int .i64 y.as_, .int .i64 0, .string ByteArray.empty] 118 := by rw [hw6]; exact HL7.out.alloc _
  have sk : Blk w6 g8 #[.int .i64 2, .int .i64 k, .string y.target, .int .i64 0, .int .i64 0, .string ByteArray.empty] 118 := by rw [hw6]; exact HL8.out.alloc _
  have rk : Blk w6 w5.heap.size #[.int .i64 y.rank, .slice y.pa y.preds.length y.pcap, .string y.target, .int .i64 y.ap, .int .i64 y.as_, .int .i64 y.dp, .int .i64 y.dt, .int .i64 y.mp, .string y.mirror, .int .i64 y.sample] 123 := by rw [hw6]; exact Blk.new _ _ _
  have HB6 : Hid (Below W.heap.size W w6) := by show Below _ _ _; rw [hw6]; exact HB5.out.alloc HB5.out.size _
  have aa0 : w6.cell? ⟨g7, 0, none⟩ = some (.int .i64 1) := ak.cell 0
  have aa1 : w6.cell? ⟨g7, 1, none⟩ = some (.int .i64 k) := ak.cell 1
  have aa2 : w6.cell? ⟨g7, 2, none⟩ = some (.string y.target) := ak.cell 2
  have aa3 : w6.cell? ⟨g7, 3, none⟩ = some (.int .i64 y.as_) := ak.cell 3
  have aa4 : w6.cell? ⟨g7, 4, none⟩ = some (.int .i64 0) := ak.cell 4
  have aa5 : w6.cell? ⟨g7, 5, none⟩ = some (.string ByteArray.empty) := ak.cell 5
  have ss0 : w6.cell? ⟨g8, 0, none⟩ = some (.int .i64 2) := sk.cell 0
  have ss1 : w6.cell? ⟨g8, 1, none⟩ = some (.int .i64 k) := sk.cell 1
  have ss2 : w6.cell? ⟨g8, 2, none⟩ = some (.string y.target) := sk.cell 2
  have ss3 : w6.cell? ⟨g8, 3, none⟩ = some (.int .i64 0) := sk.cell 3
  have ss4 : w6.cell? ⟨g8, 4, none⟩ = some (.int .i64 0) := sk.cell 4
  have ss5 : w6.cell? ⟨g8, 5, none⟩ = some (.string ByteArray.empty) := sk.cell 5
  have rr0 : w6.cell? ⟨w5.heap.size, 0, none⟩ = some (.int .i64 y.rank) := rk.cell 0
  have rr1 : w6.cell? ⟨w5.heap.size, 1, none⟩ = some (.slice y.pa y.preds.length y.pcap) := rk.cell 1
  have rr2 : w6.cell? ⟨w5.heap.size, 2, none⟩ = some (.string y.target) := rk.cell 2
  have rr3 : w6.cell? ⟨w5.heap.size, 3, none⟩ = some (.int .i64 y.ap) := rk.cell 3
  have rr4 : w6.cell? ⟨w5.heap.size, 4, none⟩ = some (.int .i64 y.as_) := rk.cell 4
  have rr5 : w6.cell? ⟨w5.heap.size, 5, none⟩ = some (.int .i64 y.dp) := rk.cell 5
  have rr6 : w6.cell? ⟨w5.heap.size, 6, none⟩ = some (.int .i64 y.dt) := rk.cell 6
  have rr7 : w6.cell? ⟨w5.heap.size, 7, none⟩ = some (.int .i64 y.mp) := rk.cell 7
  have rr8 : w6.cell? ⟨w5.heap.size, 8, none⟩ = some (.string y.mirror) := rk.cell 8
  have rr9 : w6.cell? ⟨w5.heap.size, 9, none⟩ = some (.int .i64 y.sample) := rk.cell 9
  have al := ak.lt
  have sl := sk.lt
  have rl := rk.lt
  clear hw6 ak sk rk HL7 HL8 c0 c1 c2 c3 c4 c5 c6 c7 c8 c9 hbl t1' hlz5
  have g1 : ¬ y.ap ≤ 0 := by omega
  have z1 : (y.target.toList != y.target.toList) = false := by simp
  have z2 : (y.as_ != y.as_) = false := by simp
  have z3 : ((k : Int) != (k : Int)) = false := by simp
  go_wp2_with fail
  refine (HK.out _).mono ?_
  rintro e w9 ⟨rfl, hb9⟩
  have HB9 := hid (HB6.out.trans (hb9.mono HB6.out.size))
  clear hb9
  go_wp2_with fail
  go_ret
  exact ⟨rfl, HB9.out⟩
end C16
end Go.Proofs.Ythmopkaecbebpaa
