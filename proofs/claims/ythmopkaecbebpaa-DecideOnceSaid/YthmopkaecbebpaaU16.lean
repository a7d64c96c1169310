/- Walks of layer 16 (decide): DecideOnce, where no rule hits; no condition. -/
import Derived.Test.YthmopkaecbebpaaN16
namespace Go.Proofs.Ythmopkaecbebpaa
open Go.RowKit Go.Peri
namespace C16
attribute [-go_sem] World.setCell_alloc_past
set_option maxRecDepth 100000 in
set_option maxHeartbeats 8000000 in
theorem once_none (K : Known) (n : Int) (l : List Rl) (a : Option Addr) (cap : Nat) (f : ByteArray) (m h p b : ByteArray) (hs : List Hd) (a0 : Option Addr) (cap0 : Nat) (x0 x1 x2 : Int) (W : World) (ht : TabV W W.heap.size l a cap f) (hq : ReqV W W.heap.size m h p b hs a0 cap0) (hrt : fewT l f = true) (hrs : C11.short m h p b hs = true) (hr : lookR m h p hs l = -1) (hA1 : ofR m h p hs l x0 x1 x2 false = ⟨0, -1, ByteArray.empty, 404, 0, ByteArray.empty⟩) (hA2 : ofR m h p hs l x0 x1 x2 true = ⟨0, -1, ByteArray.empty, 404, 0, ByteArray.empty⟩) :
    Calls Try.prog 16 #[.agg #[.int .i64 n, .slice a l.length cap, .string f], .agg #[.string m, .string h, .string p, .slice a0 hs.length cap0, .string b], .agg #[.int .i64 x0, .int .i64 x1, .int .i64 x2]] W fun e w' => e = .returned (.bool true) ∧ Below W.heap.size W w' := by
  obtain ⟨rt, hrt0⟩ : ∃ r : Bool, r = true := ⟨_, rfl⟩
  obtain ⟨rs, hrs0⟩ : ∃ r : Bool, r = true := ⟨_, rfl⟩
  rw [← hrt0] at hrt
  rw [← hrs0] at hrs
  have HK := hid K
  have HB0 : Hid (Below W.heap.size W (((W.alloc (.cells #[.int .i64 n, .slice a l.length cap, .string f] 110)).alloc (.cells #[.string m, .string h, .string p, .slice a0 hs.length cap0, .string b] 113)).alloc (.cells #[.int .i64 x0, .int .i64 x1, .int .i64 x2] 114))) := by show Below _ _ _; go_grown
  have HZ := hid (((Blk.new W #[.int .i64 n, .slice a l.length cap, .string f] 110).alloc (.cells #[.string m, .string h, .string p, .slice a0 hs.length cap0, .string b] 113)).alloc (.cells #[.int .i64 x0, .int .i64 x1, .int .i64 x2] 114))
  have HY := hid ((Blk.new' (W.alloc (.cells #[.int .i64 n, .slice a l.length cap, .string f] 110)) #[.string m, .string h, .string p, .slice a0 hs.length cap0, .string b] 113 (n := W.heap.size + 1) (by simp)).alloc (.cells #[.int .i64 x0, .int .i64 x1, .int .i64 x2] 114))
  have HX := hid (Blk.new' ((W.alloc (.cells #[.int .i64 n, .slice a l.length cap, .string f] 110)).alloc (.cells #[.string m, .string h, .string p, .slice a0 hs.length cap0, .string b] 113)) #[.int .i64 x0, .int .i64 x1, .int .i64 x2] 114 (n := W.heap.size + 2) (by simp))
  have HF := hid (fun w' (hw : Below W.heap.size W w') => fewT_any n l a cap f rt w' (ht.below hw) hw.size hrt)
  have HSH := hid (fun w' (hw : Below W.heap.size W w') => C11.short_any m h p b hs a0 cap0 rs w' (hq.rows.below hw (fun _ h => h)) (fun b hb => Nat.lt_of_lt_of_le hb hw.size) hq.wf (by have := hq.len; omega) hq.m hq.h hq.p hq.b hrs)
  subst hrt0 hrs0
  have hshort := C11.short_len hrs
  have hn6 : hs.length ≤ 1000000 := by omega
  have hps : ∀ r ∈ l, r.preds.length ≤ 1000000000 := by
    unfold fewT at hrt
    rw [Bool.and_eq_true] at hrt
    intro r hr
    have := Rl.few_preds hrt.2 r hr
    omega
  have HA1 := hid (fun w' (hw : Below W.heap.size W w') => of_any n l a cap f m h p b hs a0 cap0 w' (ht.below hw) (hq.below hw) hw.size hn6 hps x0 x1 x2 false _ hA1)
  have HA2 := hid (fun w' (hw : Below W.heap.size W w') => of_any n l a cap f m h p b hs a0 cap0 w' (ht.below hw) (hq.below hw) hw.size hn6 hps x0 x1 x2 true _ hA2)
  have HA3 := hid (fun w' (hw : Below W.heap.size W w') => rlook_any n l a cap f m h p b hs a0 cap0 (-1) w' (ht.below hw) (hq.below hw) hw.size hn6 hps hr)
  clear hrt hrs ht hq K hps hn6 hshort hA1 hA2 hr
  go_enter Try.func16, Try.ntmps16
  go_wp2_with fail
  refine (HF.out _ HB0.out).mono ?_
  rintro e w1 ⟨rfl, hb1⟩
  have HB1 := hid (HB0.out.trans (hb1.mono HB0.out.size))
  have HQ1 := hid hb1
  have hy := HY.out.later hb1
  have y0 : w1.cell? ⟨W.heap.size + 1, 0, none⟩ = some (.string m) := hy.cell 0
  have y1 : w1.cell? ⟨W.heap.size + 1, 1, none⟩ = some (.string h) := hy.cell 1
  have y2 : w1.cell? ⟨W.heap.size + 1, 2, none⟩ = some (.string p) := hy.cell 2
  have y3 : w1.cell? ⟨W.heap.size + 1, 3, none⟩ = some (.slice a0 hs.length cap0) := hy.cell 3
  have y4 : w1.cell? ⟨W.heap.size + 1, 4, none⟩ = some (.string b) := hy.cell 4
  have hly := hy.lt
  clear hb1 hy
  go_wp2_with fail
  refine (HSH.out _ HB1.out).mono ?_
  rintro e w2 ⟨rfl, hb2⟩
  have HB2 := hid (HB1.out.trans (hb2.mono HB1.out.size))
  have HQ2 := hid (HQ1.out.trans (hb2.mono HQ1.out.size))
  clear hb2 y0 y1 y2 y3 y4 hly
  have KEEP2 : Hid (∀ w', Only [] w2 w' → w'.cell? ⟨W.heap.size, 0, none⟩ = some (.int .i64 n) ∧ w'.cell? ⟨W.heap.size, 1, none⟩ = some (.slice a l.length cap) ∧ w'.cell? ⟨W.heap.size, 2, none⟩ = some (.string f) ∧ w'.cell? ⟨W.heap.size + 1, 0, none⟩ = some (.string m) ∧ w'.cell? ⟨W.heap.size + 1, 1, none⟩ = some (.string h) ∧ w'.cell? ⟨W.heap.size + 1, 2, none⟩ = some (.string p) ∧ w'.cell? ⟨W.heap.size + 1, 3, none⟩ = some (.slice a0 hs.length cap0) ∧ w'.cell? ⟨W.heap.size + 1, 4, none⟩ = some (.string b) ∧ w'.cell? ⟨W.heap.size + 2, 0, none⟩ = some (.int .i64 x0) ∧ w'.cell? ⟨W.heap.size + 2, 1, none⟩ = some (.int .i64 x1) ∧ w'.cell? ⟨W.heap.size + 2, 2, none⟩ = some (.int .i64 x2)) := hid (fun w' hw0 => have hw : Below w2.heap.size w2 w' := hw0.nil; ⟨((HZ.out.later HQ2.out).later hw).cell 0, ((HZ.out.later HQ2.out).later hw).cell 1, ((HZ.out.later HQ2.out).later hw).cell 2, ((HY.out.later HQ2.out).later hw).cell 0, ((HY.out.later HQ2.out).later hw).cell 1, ((HY.out.later HQ2.out).later hw).cell 2, ((HY.out.later HQ2.out).later hw).cell 3, ((HY.out.later HQ2.out).later hw).cell 4, ((HX.out.later HQ2.out).later hw).cell 0, ((HX.out.later HQ2.out).later hw).cell 1, ((HX.out.later HQ2.out).later hw).cell 2⟩)
  have HLT : Hid (W.heap.size + 2 < w2.heap.size) := hid (HX.out.later HQ2.out).lt
  have X1 : Hid (∀ w', Only [] w2 w' → Calls Try.prog 68 #[.agg #[.int .i64 n, .slice a l.length cap, .string f], .agg #[.string m, .string h, .string p, .slice a0 hs.length cap0, .string b], .agg #[.int .i64 x0, .int .i64 x1, .int .i64 x2], .bool false] w' fun e w'' => e = .returned (.agg #[.int .i64 0, .int .i64 (-1), .string ByteArray.empty, .int .i64 404, .int .i64 0, .string ByteArray.empty]) ∧ Below w'.heap.size w' w'') := hid (fun w' hw => HA1.out _ (HB2.out.trans (hw.nil.mono HB2.out.size)))
  have X2 : Hid (∀ w', Only [] w2 w' → Calls Try.prog 68 #[.agg #[.int .i64 n, .slice a l.length cap, .string f], .agg #[.string m, .string h, .string p, .slice a0 hs.length cap0, .string b], .agg #[.int .i64 x0, .int .i64 x1, .int .i64 x2], .bool true] w' fun e w'' => e = .returned (.agg #[.int .i64 0, .int .i64 (-1), .string ByteArray.empty, .int .i64 404, .int .i64 0, .string ByteArray.empty]) ∧ Below w'.heap.size w' w'') := hid (fun w' hw => HA2.out _ (HB2.out.trans (hw.nil.mono HB2.out.size)))
  have hlt := HLT.out
  clear HA1 HA2 HF HSH HQ1 HZ HY HX
  go_upto_region 3 with fail
  go_cut [7, 8] (fun s7 s8 wx => OnceQ ⟨0, -1, ByteArray.empty, 404, 0, ByteArray.empty⟩ ⟨0, -1, ByteArray.empty, 404, 0, ByteArray.empty⟩ w2 s7 s8 wx)
  case first =>
    clear HB2 HQ2 HB1 HK HA3
    go_region_held3 (fun w' => w'.cell? ⟨W.heap.size, 0, none⟩ = some (.int .i64 n) ∧ w'.cell? ⟨W.heap.size, 1, none⟩ = some (.slice a l.length cap) ∧ w'.cell? ⟨W.heap.size, 2, none⟩ = some (.string f) ∧ w'.cell? ⟨W.heap.size + 1, 0, none⟩ = some (.string m) ∧ w'.cell? ⟨W.heap.size + 1, 1, none⟩ = some (.string h) ∧ w'.cell? ⟨W.heap.size + 1, 2, none⟩ = some (.string p) ∧ w'.cell? ⟨W.heap.size + 1, 3, none⟩ = some (.slice a0 hs.length cap0) ∧ w'.cell? ⟨W.heap.size + 1, 4, none⟩ = some (.string b) ∧ w'.cell? ⟨W.heap.size + 2, 0, none⟩ = some (.int .i64 x0) ∧ w'.cell? ⟨W.heap.size + 2, 1, none⟩ = some (.int .i64 x1) ∧ w'.cell? ⟨W.heap.size + 2, 2, none⟩ = some (.int .i64 x2))
      (exact KEEP2.out _ (by repeat' (first | (guard_target =ₛ Only [] w2 w2; exact Only.refl _ _) | (guard_target =ₛ Only [] w2 w4; exact q4) | (guard_target =ₛ Only [] w2 w3; exact q3) | (with_reducible refine Only.drew ?_) | (with_reducible refine Only.alloc ?_ _) | (with_reducible refine Only.setNew ?_ ?_ _) | (first | omega | (simp; done) | (simp; omega)))))
      ((first
        | (go_at_call 68; (with_reducible refine (X1.out _ ?_).mono ?_); (focus (repeat' (first | (guard_target =ₛ Only [] w2 w2; exact Only.refl _ _) | (guard_target =ₛ Only [] w2 w4; exact q4) | (guard_target =ₛ Only [] w2 w3; exact q3) | (with_reducible refine Only.drew ?_) | (with_reducible refine Only.alloc ?_ _) | (with_reducible refine Only.setNew ?_ ?_ _) | (first | omega | (simp; done) | (simp; omega))))); rintro e w3 ⟨rfl, hb3⟩; have q3 : Only [] w2 w3 := Only.trans (a := w2) (by repeat' (first | (guard_target =ₛ Only [] w2 w2; exact Only.refl _ _) | (guard_target =ₛ Only [] w2 w4; exact q4) | (guard_target =ₛ Only [] w2 w3; exact q3) | (with_reducible refine Only.drew ?_) | (with_reducible refine Only.alloc ?_ _) | (with_reducible refine Only.setNew ?_ ?_ _) | (first | omega | (simp; done) | (simp; omega)))) (Only.of_below hb3); have l3 := q3.size; have ho3 : Only [] _ w3 := Only.of_below hb3; (first
          | (guard_hyp ho3 :ₛ Only [] w2.drew w3)
          | (guard_hyp ho3 :ₛ Only [] (w2.alloc (.cells #[.int .i64 0, .int .i64 0, .string ⟨#[]⟩, .int .i64 0, .int .i64 0, .string ⟨#[]⟩] (118 : Nat))).drew w3; have bx0 : Blk w3 w2.heap.size #[.int .i64 0, .int .i64 0, .string ⟨#[]⟩, .int .i64 0, .int .i64 0, .string ⟨#[]⟩] 118 := (Blk.new w2 #[.int .i64 0, .int .i64 0, .string ⟨#[]⟩, .int .i64 0, .int .i64 0, .string ⟨#[]⟩] 118).drew.later hb3; have bx0l := bx0.lt; have bx0n := Nat.ne_of_lt bx0l; have bx0m := bx0n.symm)
          | (guard_hyp ho3 :ₛ Only [] ((w2.alloc (.cells #[.int .i64 0, .int .i64 0, .string ⟨#[]⟩, .int .i64 0, .int .i64 0, .string ⟨#[]⟩] (118 : Nat))).alloc (.cells #[.int .i64 0, .int .i64 0, .string ⟨#[]⟩, .int .i64 0, .int .i64 0, .string ⟨#[]⟩] (118 : Nat))).drew w3; have bx0 : Blk w3 w2.heap.size #[.int .i64 0, .int .i64 0, .string ⟨#[]⟩, .int .i64 0, .int .i64 0, .string ⟨#[]⟩] 118 := ((Blk.new w2 #[.int .i64 0, .int .i64 0, .string ⟨#[]⟩, .int .i64 0, .int .i64 0, .string ⟨#[]⟩] 118).alloc _).drew.later hb3; have bx1 : Blk w3 (w2.heap.size + 1) #[.int .i64 0, .int .i64 0, .string ⟨#[]⟩, .int .i64 0, .int .i64 0, .string ⟨#[]⟩] 118 := (Blk.new' (w2.alloc (.cells #[.int .i64 0, .int .i64 0, .string ⟨#[]⟩, .int .i64 0, .int .i64 0, .string ⟨#[]⟩] (118 : Nat))) #[.int .i64 0, .int .i64 0, .string ⟨#[]⟩, .int .i64 0, .int .i64 0, .string ⟨#[]⟩] 118 (by simp)).drew.later hb3; have bx0l := bx0.lt; have bx0n := Nat.ne_of_lt bx0l; have bx0m := bx0n.symm; have bx1l := bx1.lt; have bx1n := Nat.ne_of_lt bx1l; have bx1m := bx1n.symm)))
        | (go_at_call 68; (with_reducible refine (X2.out _ ?_).mono ?_); (focus (repeat' (first | (guard_target =ₛ Only [] w2 w2; exact Only.refl _ _) | (guard_target =ₛ Only [] w2 w4; exact q4) | (guard_target =ₛ Only [] w2 w3; exact q3) | (with_reducible refine Only.drew ?_) | (with_reducible refine Only.alloc ?_ _) | (with_reducible refine Only.setNew ?_ ?_ _) | (first | omega | (simp; done) | (simp; omega))))); rintro e w4 ⟨rfl, hb4⟩; have q4 : Only [] w2 w4 := Only.trans (a := w2) (by repeat' (first | (guard_target =ₛ Only [] w2 w2; exact Only.refl _ _) | (guard_target =ₛ Only [] w2 w4; exact q4) | (guard_target =ₛ Only [] w2 w3; exact q3) | (with_reducible refine Only.drew ?_) | (with_reducible refine Only.alloc ?_ _) | (with_reducible refine Only.setNew ?_ ?_ _) | (first | omega | (simp; done) | (simp; omega)))) (Only.of_below hb4); have l4 := q4.size; have ho4 : Only [] _ w4 := Only.of_below hb4; (first
          | (guard_hyp ho4 :ₛ Only [] w3 w4; (try have cx0 := bx0.later hb4); (try have cx1 := bx1.later hb4))
          | (guard_hyp ho4 :ₛ Only [] (w3.alloc (.cells #[.int .i64 0, .int .i64 0, .string ⟨#[]⟩, .int .i64 0, .int .i64 0, .string ⟨#[]⟩] (118 : Nat))) w4; (try have cx0 := (bx0.alloc (.cells #[.int .i64 0, .int .i64 0, .string ⟨#[]⟩, .int .i64 0, .int .i64 0, .string ⟨#[]⟩] (118 : Nat))).later hb4); (try have cx1 := (bx1.alloc (.cells #[.int .i64 0, .int .i64 0, .string ⟨#[]⟩, .int .i64 0, .int .i64 0, .string ⟨#[]⟩] (118 : Nat))).later hb4); have by0 : Blk w4 w3.heap.size #[.int .i64 0, .int .i64 0, .string ⟨#[]⟩, .int .i64 0, .int .i64 0, .string ⟨#[]⟩] 118 := (Blk.new w3 #[.int .i64 0, .int .i64 0, .string ⟨#[]⟩, .int .i64 0, .int .i64 0, .string ⟨#[]⟩] 118).later hb4)
          | (guard_hyp ho4 :ₛ Only [] ((w3.alloc (.cells #[.int .i64 0, .int .i64 0, .string ⟨#[]⟩, .int .i64 0, .int .i64 0, .string ⟨#[]⟩] (118 : Nat))).alloc (.cells #[.int .i64 0, .int .i64 0, .string ⟨#[]⟩, .int .i64 0, .int .i64 0, .string ⟨#[]⟩] (118 : Nat))) w4; (try have cx0 := ((bx0.alloc (.cells #[.int .i64 0, .int .i64 0, .string ⟨#[]⟩, .int .i64 0, .int .i64 0, .string ⟨#[]⟩] (118 : Nat))).alloc (.cells #[.int .i64 0, .int .i64 0, .string ⟨#[]⟩, .int .i64 0, .int .i64 0, .string ⟨#[]⟩] (118 : Nat))).later hb4); (try have cx1 := ((bx1.alloc (.cells #[.int .i64 0, .int .i64 0, .string ⟨#[]⟩, .int .i64 0, .int .i64 0, .string ⟨#[]⟩] (118 : Nat))).alloc (.cells #[.int .i64 0, .int .i64 0, .string ⟨#[]⟩, .int .i64 0, .int .i64 0, .string ⟨#[]⟩] (118 : Nat))).later hb4); have by0 : Blk w4 w3.heap.size #[.int .i64 0, .int .i64 0, .string ⟨#[]⟩, .int .i64 0, .int .i64 0, .string ⟨#[]⟩] 118 := ((Blk.new w3 #[.int .i64 0, .int .i64 0, .string ⟨#[]⟩, .int .i64 0, .int .i64 0, .string ⟨#[]⟩] 118).alloc _).later hb4; have by1 : Blk w4 (w3.heap.size + 1) #[.int .i64 0, .int .i64 0, .string ⟨#[]⟩, .int .i64 0, .int .i64 0, .string ⟨#[]⟩] 118 := (Blk.new' (w3.alloc (.cells #[.int .i64 0, .int .i64 0, .string ⟨#[]⟩, .int .i64 0, .int .i64 0, .string ⟨#[]⟩] (118 : Nat))) #[.int .i64 0, .int .i64 0, .string ⟨#[]⟩, .int .i64 0, .int .i64 0, .string ⟨#[]⟩] 118 (by simp)).later hb4)); (try (have cx0c0 : w4.cell? ⟨w2.heap.size, 0, none⟩ = some (.int .i64 0) := cx0.cell 0; have cx0f0 := cx0.free 0; have cx0c1 : w4.cell? ⟨w2.heap.size, 1, none⟩ = some (.int .i64 0) := cx0.cell 1; have cx0f1 := cx0.free 1; have cx0c2 : w4.cell? ⟨w2.heap.size, 2, none⟩ = some (.string ⟨#[]⟩) := cx0.cell 2; have cx0f2 := cx0.free 2; have cx0c3 : w4.cell? ⟨w2.heap.size, 3, none⟩ = some (.int .i64 0) := cx0.cell 3; have cx0f3 := cx0.free 3; have cx0c4 : w4.cell? ⟨w2.heap.size, 4, none⟩ = some (.int .i64 0) := cx0.cell 4; have cx0f4 := cx0.free 4; have cx0c5 : w4.cell? ⟨w2.heap.size, 5, none⟩ = some (.string ⟨#[]⟩) := cx0.cell 5; have cx0f5 := cx0.free 5; have cx0l := cx0.lt; have cx0n := Nat.ne_of_lt cx0l; have cx0m := cx0n.symm)); (try (have cx1c0 : w4.cell? ⟨w2.heap.size + 1, 0, none⟩ = some (.int .i64 0) := cx1.cell 0; have cx1f0 := cx1.free 0; have cx1c1 : w4.cell? ⟨w2.heap.size + 1, 1, none⟩ = some (.int .i64 0) := cx1.cell 1; have cx1f1 := cx1.free 1; have cx1c2 : w4.cell? ⟨w2.heap.size + 1, 2, none⟩ = some (.string ⟨#[]⟩) := cx1.cell 2; have cx1f2 := cx1.free 2; have cx1c3 : w4.cell? ⟨w2.heap.size + 1, 3, none⟩ = some (.int .i64 0) := cx1.cell 3; have cx1f3 := cx1.free 3; have cx1c4 : w4.cell? ⟨w2.heap.size + 1, 4, none⟩ = some (.int .i64 0) := cx1.cell 4; have cx1f4 := cx1.free 4; have cx1c5 : w4.cell? ⟨w2.heap.size + 1, 5, none⟩ = some (.string ⟨#[]⟩) := cx1.cell 5; have cx1f5 := cx1.free 5; have cx1l := cx1.lt; have cx1n := Nat.ne_of_lt cx1l; have cx1m := cx1n.symm)); (try (have by0c0 : w4.cell? ⟨w3.heap.size, 0, none⟩ = some (.int .i64 0) := by0.cell 0; have by0f0 := by0.free 0; have by0c1 : w4.cell? ⟨w3.heap.size, 1, none⟩ = some (.int .i64 0) := by0.cell 1; have by0f1 := by0.free 1; have by0c2 : w4.cell? ⟨w3.heap.size, 2, none⟩ = some (.string ⟨#[]⟩) := by0.cell 2; have by0f2 := by0.free 2; have by0c3 : w4.cell? ⟨w3.heap.size, 3, none⟩ = some (.int .i64 0) := by0.cell 3; have by0f3 := by0.free 3; have by0c4 : w4.cell? ⟨w3.heap.size, 4, none⟩ = some (.int .i64 0) := by0.cell 4; have by0f4 := by0.free 4; have by0c5 : w4.cell? ⟨w3.heap.size, 5, none⟩ = some (.string ⟨#[]⟩) := by0.cell 5; have by0f5 := by0.free 5; have by0l := by0.lt; have by0n := Nat.ne_of_lt by0l; have by0m := by0n.symm)); (try (have by1c0 : w4.cell? ⟨w3.heap.size + 1, 0, none⟩ = some (.int .i64 0) := by1.cell 0; have by1f0 := by1.free 0; have by1c1 : w4.cell? ⟨w3.heap.size + 1, 1, none⟩ = some (.int .i64 0) := by1.cell 1; have by1f1 := by1.free 1; have by1c2 : w4.cell? ⟨w3.heap.size + 1, 2, none⟩ = some (.string ⟨#[]⟩) := by1.cell 2; have by1f2 := by1.free 2; have by1c3 : w4.cell? ⟨w3.heap.size + 1, 3, none⟩ = some (.int .i64 0) := by1.cell 3; have by1f3 := by1.free 3; have by1c4 : w4.cell? ⟨w3.heap.size + 1, 4, none⟩ = some (.int .i64 0) := by1.cell 4; have by1f4 := by1.free 4; have by1c5 : w4.cell? ⟨w3.heap.size + 1, 5, none⟩ = some (.string ⟨#[]⟩) := by1.cell 5; have by1f5 := by1.free 5; have by1l := by1.lt; have by1n := Nat.ne_of_lt by1l; have by1m := by1n.symm)))))
    all_goals
      go_wp2_with fail
      go_meet
      show OnceQ _ _ _ _ _ _
      refine ⟨_, _, rfl, rfl, ?_, ?_, ?_, ?_, ?_, ?_⟩
      · (first | omega | (simp; done) | (simp; omega))
      · exact Only.nil (by repeat' (first | (guard_target =ₛ Only [] w2 w2; exact Only.refl _ _) | (guard_target =ₛ Only [] w2 w4; exact q4) | (guard_target =ₛ Only [] w2 w3; exact q3) | (with_reducible refine only6 ?_ ?_) | (with_reducible refine Only.drew ?_) | (with_reducible refine Only.alloc ?_ _) | (with_reducible refine Only.setNew ?_ ?_ _) | (first | omega | (simp; done) | (simp; omega))))
      · (first | omega | (simp; done) | (simp; omega))
      · (first | omega | (simp; done) | (simp; omega))
      · repeat' (first | (with_reducible refine put6 ?_) | (with_reducible refine put6o ?_ ?_) | exact Blk.new _ _ _ | (refine Blk.new' _ _ _ ?_; (focus (first | omega | (simp; done)))) | (with_reducible refine Blk.alloc ?_ _) | (with_reducible assumption) | (first | omega | (simp; done) | (simp; omega)))
      · repeat' (first | (with_reducible refine put6 ?_) | (with_reducible refine put6o ?_ ?_) | exact Blk.new _ _ _ | (refine Blk.new' _ _ _ ?_; (focus (first | omega | (simp; done)))) | (with_reducible refine Blk.alloc ?_ _) | (with_reducible assumption) | (first | omega | (simp; done) | (simp; omega)))
  case rest =>
  obtain ⟨g7, g8, rfl, rfl, hne, hbx, hg7, hg8, hk7, hk8⟩ := hcut
  have HK7 := hid hk7
  have HK8 := hid hk8
  have HBX := hid (HB2.out.trans (hbx.mono HB2.out.size))
  have HBXX := hid hbx
  clear hbx hk7 hk8 X1 X2
  obtain ⟨t0, t1, t2, y0, y1, y2, y3, y4, d0, d1, d2⟩ := KEEP2.out _ (Only.of_below HBXX.out)
  have hlz : W.heap.size < wc.heap.size := by have := HBXX.out.size; omega
  have hly : W.heap.size + 1 < wc.heap.size := by have := HBXX.out.size; omega
  go_wp2_with fail
  refine (HA3.out _ HBX.out).mono ?_
  rintro e w5 ⟨rfl, hb5⟩
  have HB5 := hid (HBX.out.trans (hb5.mono HBX.out.size))
  have HL7 := hid (HK7.out.later hb5)
  have HL8 := hid (HK8.out.later hb5)
  have ak := HL7.out
  have sk := HL8.out
  have aa0 : w5.cell? ⟨g7, 0, none⟩ = some (.int .i64 0) := ak.cell 0
  have aa1 : w5.cell? ⟨g7, 1, none⟩ = some (.int .i64 (-1)) := ak.cell 1
  have aa2 : w5.cell? ⟨g7, 2, none⟩ = some (.string ByteArray.empty) := ak.cell 2
  have aa3 : w5.cell? ⟨g7, 3, none⟩ = some (.int .i64 404) := ak.cell 3
  have aa4 : w5.cell? ⟨g7, 4, none⟩ = some (.int .i64 0) := ak.cell 4
  have aa5 : w5.cell? ⟨g7, 5, none⟩ = some (.string ByteArray.empty) := ak.cell 5
  have ss0 : w5.cell? ⟨g8, 0, none⟩ = some (.int .i64 0) := sk.cell 0
  have ss1 : w5.cell? ⟨g8, 1, none⟩ = some (.int .i64 (-1)) := sk.cell 1
  have ss2 : w5.cell? ⟨g8, 2, none⟩ = some (.string ByteArray.empty) := sk.cell 2
  have ss3 : w5.cell? ⟨g8, 3, none⟩ = some (.int .i64 404) := sk.cell 3
  have ss4 : w5.cell? ⟨g8, 4, none⟩ = some (.int .i64 0) := sk.cell 4
  have ss5 : w5.cell? ⟨g8, 5, none⟩ = some (.string ByteArray.empty) := sk.cell 5
  have al := ak.lt
  have sl := sk.lt
  have hee := eqAc_self ⟨0, -1, ByteArray.empty, 404, 0, ByteArray.empty⟩
  dsimp only at hee
  clear hb5 ak sk t0 t1 t2 y0 y1 y2 y3 y4 d0 d1 d2 hlz hly
  go_wp2_with fail
  refine (HK.out _).mono ?_
  rintro e w9 ⟨rfl, hb9⟩
  have HB9 := hid (HB5.out.trans (hb9.mono HB5.out.size))
  clear hb9
  go_wp2_with fail
  go_ret
  exact ⟨rfl, HB9.out⟩
end C16
end Go.Proofs.Ythmopkaecbebpaa
