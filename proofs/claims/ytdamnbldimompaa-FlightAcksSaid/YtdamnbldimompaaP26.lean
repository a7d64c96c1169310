/- Walks of layer 26 (flight): what must come of fixed calls; no condition. -/
import Derived.Test.YtdamnbldimompaaN26
import Derived.Test.YtdamnbldimompaaH26
namespace Go.Proofs.Ytdamnbldimompaa
open Go.RowKit Go.Peri
namespace C26
open Sq (rest ixQ atQ total bk benc)
def zS : Sp := ⟨0, 0, 0, 0, ByteArray.empty, 0, 0, 0, false, 0, 0⟩
def yA : Sq := ⟨0, 4, none, 0, [zS, zS, zS], 1, 7⟩
def yB : Sq := ⟨0, 4, none, 0, [zS, zS, zS], 2, 9⟩
def bt (g : Nat) (t d : Int) : Sq := ⟨0, 4, some ⟨g, 0, none⟩, 3, [zS, zS, zS], t, d⟩
theorem rowsBlk {α : Type} {enc : α → List Value} {k : Nat} (hk : ∀ x, (enc x).length = k) {w : World} {g t n : Nat} {l : List α} (h : Blk w g (l.flatMap enc).toArray t) (hn : l.length = n) (hm : n ≤ maxLen) : RowsOf (· < w.heap.size) enc k w (.slice (some ⟨g, 0, none⟩) n n) l := by
  subst hn
  refine ⟨_, _, rfl, Nat.le_refl _, hm, by simp, .inr ⟨g, 0, rfl, h.lt, fun i hi j u hu => ?_⟩⟩
  have hj : j < k := by have := (List.getElem?_eq_some_iff.1 hu).1; rw [hk] at this; exact this
  rw [h.cell, Nat.zero_add, List.getElem?_toArray, flat_get hk l i hi j hj]
  exact hu
/-- The spans of the fixed batch. -/
def X0 : Array Value := ([zS, zS, zS].flatMap Sp.enc).toArray
theorem bt_at {w : World} {g : Nat} (h : Blk w g X0 27) (t d : Int) : (bt g t d).At (· < w.heap.size) w := rowsBlk (l := [zS, zS, zS]) (enc := Sp.enc) (k := 11) (fun _ => rfl) h rfl (by show 3 ≤ maxLen; decide)
theorem bt_fr {w : World} {g g2 : Nat} {t d : Int} (h : Blk w g X0 27) (h2 : Blk w g2 #[.int .i64 0, .int .i64 4, .slice (some ⟨g, 0, none⟩) 3 3, .int .i64 t, .int .i64 d] 62) : FR w [⟨0, 4, none, 0, [zS, zS, zS], t, d⟩] (some ⟨g2, 0, none⟩) 1 1 w :=
  ⟨[bt g t d], rfl, rfl, Below.refl _ _, rowsBlk (l := [bt g t d]) Sq.enc_length h2 rfl (by show 1 ≤ maxLen; decide), fun x hx => by rw [List.mem_singleton.1 hx]; exact bt_at h t d⟩
theorem one_of {W : World} {y : Sq} {a : Option Addr} {cap : Nat} {w : World} (h : FR W [y] a 1 cap w) : ∃ x : Sq, x.core = y ∧ RowsOf (· < w.heap.size) Sq.enc 5 w (.slice a 1 cap) [x] ∧ x.At (· < w.heap.size) w := by
  obtain ⟨l1, h1, h2, _, h4, h5⟩ := h
  obtain ⟨x, rfl⟩ := List.length_eq_one_iff.1 h1
  exact ⟨x, by simpa using h2, h4, h5 x (by simp)⟩
theorem stepR_of {W : World} {y : Sq} {a : Option Addr} {cap : Nat} {w : World} (h : FR W [y] a 1 cap w) (now retry tries : Int) (hl : y.sp.length ≤ 1000000) (hlt : clk now < y.due) :
    Calls Try.prog 31 #[.slice a 1 cap, .int .i64 now, .int .i64 retry, .int .i64 tries] w (Ret (StepQ w true y (fun _ va vg => va = .slice none 0 0 ∧ vg = .slice none 0 0))) := by
  obtain ⟨x, rfl, hr, hat⟩ := one_of h
  exact step_rest x now retry tries a cap w hr hat hl hlt
theorem stepG_of {W : World} {y : Sq} {a : Option Addr} {cap : Nat} {w : World} (h : FR W [y] a 1 cap w) (now retry tries : Int) (hl : y.sp.length ≤ 1000000) (hge : ¬ clk now < y.due) (htr : tries ≤ y.tries) :
    Calls Try.prog 31 #[.slice a 1 cap, .int .i64 now, .int .i64 retry, .int .i64 tries] w (Ret (StepQ w false y (fun w va vg => va = .slice none 0 0 ∧ BAt w (bk y) vg))) := by
  obtain ⟨x, rfl, hr, hat⟩ := one_of h
  exact step_given x now retry tries a cap w hr hat hl hge htr
theorem stepA_of {W : World} {y : Sq} {a : Option Addr} {cap : Nat} {w : World} (h : FR W [y] a 1 cap w) (now retry tries : Int) (hl : y.sp.length ≤ 1000000) (hge : ¬ clk now < y.due) (htr : ¬ tries ≤ y.tries) (htb : 0 ≤ y.tries ∧ y.tries ≤ 1000000) :
    Calls Try.prog 31 #[.slice a 1 cap, .int .i64 now, .int .i64 retry, .int .i64 tries] w (Ret (StepQ w true { y with tries := y.tries + 1, due := dueI now retry } (fun w va vg => BAt w (bk y) va ∧ vg = .slice none 0 0))) := by
  obtain ⟨x, rfl, hr, hat⟩ := one_of h
  exact step_again x now retry tries a cap w hr hat hl hge htr htb
theorem bats_of {w : World} {g g2 : Nat} {a : Option Addr} {cap : Nat} (h : BAt w (bk yA) (.slice a 1 cap)) (hk : Blk w g X0 27) (h2 : Blk w g2 #[.int .i64 0, .int .i64 4, .slice (some ⟨g, 0, none⟩) 3 3] 60) :
    Calls Try.prog 32 #[.slice a 1 cap, .slice (some ⟨g2, 0, none⟩) 1 1] w fun e w' => e = .returned (.bool true) ∧ Below w.heap.size w w' := by
  obtain ⟨a', cap', k, e, h1, h3, h4⟩ := h
  cases e
  have hq : k.sp = [zS, zS, zS] := ((Sq.bk_iff k yA).1 h1).2.2
  refine batches_any _ _ [k] [bt g 0 0] true w h3 (rowsBlk (l := [bt g 0 0]) benc_len h2 rfl (by show 1 ≤ maxLen; decide)) (fun x hx => by rw [List.mem_singleton.1 hx]; exact h4) (fun x hx => by rw [List.mem_singleton.1 hx]; exact bt_at hk 0 0) (by simp) (by simp) (fun x hx => by rw [List.mem_singleton.1 hx, hq]; simp) (fun x hx => by rw [List.mem_singleton.1 hx]; show 3 ≤ _; decide) ?_
  rw [decide_eq_true]
  rw [List.map_singleton, List.map_singleton, h1]
  rfl
theorem yA_sp : ∀ k ∈ [yA], k.sp.length ≤ 1000000 := by
  intro k hk
  rw [List.mem_singleton.1 hk]
  show 3 ≤ 1000000
  decide
theorem yB_sp : ∀ k ∈ [yB], k.sp.length ≤ 1000000 := by
  intro k hk
  rw [List.mem_singleton.1 hk]
  show 3 ≤ 1000000
  decide
theorem mk3 (W : World) : (Instr.makeSlice 32 (.int .i64 3) (.int .i64 3)).run Try.prog W = .ok (.slice (some ⟨W.heap.size, 0, none⟩) 3 3) (W.alloc (.cells X0 27)) := by
  obtain ⟨i0, hi, hz, hsz, hby⟩ := info_parts (P := Try.prog) (e := 27) (z := .agg #[.int .u64 0, .int .u64 0, .int .u64 0, .int .u64 0, .string ByteArray.empty, .int .i64 0, .int .i64 0, .int .i64 0, .bool false, .int .i64 0, .int .i64 0]) (size := 11) (bytes := 96) (by kernel_rfl)
  have := run_make_n (P := Try.prog) 32 27 Try.underlying32 hi hz 3 (by rw [hby]; decide) (by decide) W
  rw [hsz] at this
  have e : madeCells (Value.agg #[.int .u64 0, .int .u64 0, .int .u64 0, .int .u64 0, .string ByteArray.empty, .int .i64 0, .int .i64 0, .int .i64 0, .bool false, .int .i64 0, .int .i64 0]).cells (3 * 11) = X0 := by kernel_rfl
  rw [e] at this
  exact this
set_option maxRecDepth 100000 in
set_option maxHeartbeats 16000000 in
theorem known_any : Known := by
  intro W
  have hmk := mk3
  go_enter Try.func18, Try.ntmps18
  go_upto_region 2 with fail
  refine wp_genF ?_
  intro w1 hw1
  have hb1 : Below W.heap.size W w1 := by rw [hw1]; go_grown
  have hk1 : Blk w1 W.heap.size X0 27 := by rw [hw1]; exact (Blk.new _ _ _).alloc _
  have hx1 : Blk w1 (W.heap.size + 1) #[.int .i64 0, .int .i64 4, .slice (some ⟨W.heap.size, 0, none⟩) 3 3] 60 := by rw [hw1]; exact Blk.new' _ _ _ (by simp)
  clear hw1 hmk
  have HB1 := hid hb1
  have HK1 := hid hk1
  have HX1 := hid hx1
  have Y1 : Hid (Calls Try.prog 30 #[.slice none 0 0, .agg #[.int .i64 0, .int .i64 4, .slice (some ⟨W.heap.size, 0, none⟩) 3 3], .int .i64 5, .int .i64 2] w1 (Ret (OneQ w1 yA))) := hid (send_nil (bt W.heap.size 0 0) 5 2 w1 (bt_at hk1 0 0) (by show 3 ≤ 1000000; decide))
  clear hb1 hk1 hx1
  obtain ⟨z0, z1, z2, -⟩ := blk3' HX1.out
  go_wp2_with fail
  refine Y1.out.mono ?_
  rintro e w2 ⟨v2, rfl, p2, c2, rfl, hf2⟩
  have hb2 := hf2.below
  have HB2 := hid (HB1.out.trans (hb2.mono HB1.out.size))
  have HK2 := hid (HK1.out.later hb2)
  have HX2 := hid (HX1.out.later hb2)
  have HL2 := hid hf2.self
  have Y2 := hid (stepR_of hf2 6 2 2 (yA_sp yA (by simp)) (by decide))
  clear hb2 hf2 z0 z1 z2 Y1 HB1 HK1 HX1
  go_wp2_with fail
  refine Y2.out.mono ?_
  rintro e w3 ⟨v3, rfl, hb3, v31, v32, v33, rfl, ⟨rfl, rfl⟩, ht3, -⟩
  obtain ⟨p3, c3, rfl, hf3⟩ := ht3 rfl
  have HB3 := hid (HB2.out.trans (hb3.mono HB2.out.size))
  have HK3 := hid (HK2.out.later hb3)
  have HX3 := hid (HX2.out.later hb3)
  have HL3 := hid (HL2.out.later hb3)
  have HM3 := hid hf3
  have Y3 := hid (stepA_of HL3.out 7 2 2 (yA_sp yA (by simp)) (by decide) (by decide) (by decide))
  clear hb3 ht3 hf3 Y2 HB2 HK2 HX2 HL2
  go_wp2_with fail
  refine Y3.out.mono ?_
  rintro e w4 ⟨v4, rfl, hb4, v41, v42, v43, rfl, ⟨hq4, rfl⟩, ht4, -⟩
  obtain ⟨p4, c4, rfl, hf4⟩ := ht4 rfl
  have hf4' : FR w4 [yB] p4 1 c4 w4 := hf4
  obtain ⟨q4, d4, rfl⟩ : ∃ q d, v42 = .slice q 1 d := by
    obtain ⟨q, d, _, e, _⟩ := hq4
    exact ⟨q, d, e⟩
  have HB4 := hid (HB3.out.trans (hb4.mono HB3.out.size))
  have HK4 := hid (HK3.out.later hb4)
  have HX4 := hid (HX3.out.later hb4)
  have HL4 := hid (HL3.out.later hb4)
  have HM4 := hid (HM3.out.later hb4)
  have HU4 := hid hf4'
  have HV4 := hid hq4
  have Y4 := hid (stepG_of HU4.out 9 2 2 (yB_sp yB (by simp)) (by decide) (by decide))
  clear hb4 ht4 hf4 hf4' hq4 Y3 HB3 HK3 HX3 HL3 HM3
  go_wp2_with fail
  refine Y4.out.mono ?_
  rintro e w5 ⟨v5, rfl, hb5, v51, v52, v53, rfl, ⟨rfl, hq5⟩, -, hn5⟩
  obtain rfl := hn5 rfl
  obtain ⟨q5, d5, rfl⟩ : ∃ q d, v53 = .slice q 1 d := by
    obtain ⟨q, d, _, e, _⟩ := hq5
    exact ⟨q, d, e⟩
  have hq5' : BAt w5 (bk yA) (.slice q5 1 d5) := hq5
  have HB5 := hid (HB4.out.trans (hb5.mono HB4.out.size))
  have HK5 := hid (HK4.out.later hb5)
  have HX5 := hid (HX4.out.later hb5)
  have HL5 := hid (HL4.out.later hb5)
  have HM5 := hid (HM4.out.later hb5)
  have HU5 := hid (HU4.out.later hb5)
  have HV5 := hid (HV4.out.later hb5)
  have HG5 := hid hq5'
  have Y5 := hid (ack_of HL5.out 4 (by decide) yA_sp)
  clear hb5 hn5 hq5 hq5' Y4 HB4 HK4 HX4 HL4 HM4 HU4 HV4
  go_wp2_with fail
  refine Y5.out.mono ?_
  rintro e w6 ⟨v6, rfl, p6, n6, c6, rfl, hf6⟩
  obtain rfl : n6 = 0 := hf6.len
  rw [show ((total [yA] : Int) - (total (rest [yA] 4) : Int)) = 3 from rfl]
  have hb6 := hf6.below
  have HB6 := hid (HB5.out.trans (hb6.mono HB5.out.size))
  have HK6 := hid (HK5.out.later hb6)
  have HX6 := hid (HX5.out.later hb6)
  have HL6 := hid (HL5.out.later hb6)
  have HM6 := hid (HM5.out.later hb6)
  have HU6 := hid (HU5.out.later hb6)
  have HV6 := hid (HV5.out.later hb6)
  have HG6 := hid (HG5.out.later hb6)
  clear hf6 hb6 Y5 HB5 HK5 HX5 HL5 HM5 HU5 HV5 HG5
  obtain ⟨z0, z1, z2, -⟩ := blk3' HX6.out
  have A6 : Below w6.heap.size w6 (w6.alloc (.cells #[.int .i64 0, .int .i64 4, .slice (some ⟨W.heap.size, 0, none⟩) 3 3, .int .i64 1, .int .i64 7] 62)) := (Below.refl _ _).alloc (Nat.le_refl _) _
  have Y6 := hid (same_of (HL6.out.later A6) (bt_fr (HK6.out.later A6) (Blk.new w6 #[.int .i64 0, .int .i64 4, .slice (some ⟨W.heap.size, 0, none⟩) 3 3, .int .i64 1, .int .i64 7] 62)) (by decide) (by decide) yA_sp yA_sp true (decide_eq_true rfl))
  have HA6 := hid A6
  clear A6
  go_wp2_with fail
  refine Y6.out.mono ?_
  rintro e w7 ⟨rfl, hb7a⟩
  have hb7 : Below w6.heap.size w6 w7 := HA6.out.trans (hb7a.mono HA6.out.size)
  have HB7 := hid (HB6.out.trans (hb7.mono HB6.out.size))
  have HK7 := hid (HK6.out.later hb7)
  have HX7 := hid (HX6.out.later hb7)
  have HL7 := hid (HL6.out.later hb7)
  have HM7 := hid (HM6.out.later hb7)
  have HU7 := hid (HU6.out.later hb7)
  have HV7 := hid (HV6.out.later hb7)
  have HG7 := hid (HG6.out.later hb7)
  have Y7 := hid (same_of HM7.out HL7.out (by decide) (by decide) yA_sp yA_sp true (decide_eq_true rfl))
  clear hb7 hb7a HA6 Y6 HB6 HK6 HX6 HL6 HM6 HU6 HV6 HG6 z0 z1 z2
  go_wp2_with fail
  refine Y7.out.mono ?_
  rintro e w8 ⟨rfl, hb8⟩
  have HB8 := hid (HB7.out.trans (hb8.mono HB7.out.size))
  have HK8 := hid (HK7.out.later hb8)
  have HX8 := hid (HX7.out.later hb8)
  have HL8 := hid (HL7.out.later hb8)
  have HU8 := hid (HU7.out.later hb8)
  have HV8 := hid (HV7.out.later hb8)
  have HG8 := hid (HG7.out.later hb8)
  clear hb8 Y7 HB7 HK7 HX7 HL7 HM7 HU7 HV7 HG7
  obtain ⟨z0, z1, z2, -⟩ := blk3' HX8.out
  have A8 : Below w8.heap.size w8 (w8.alloc (.cells #[.int .i64 0, .int .i64 4, .slice (some ⟨W.heap.size, 0, none⟩) 3 3, .int .i64 2, .int .i64 9] 62)) := (Below.refl _ _).alloc (Nat.le_refl _) _
  have Y8 := hid (same_of (HU8.out.later A8) (bt_fr (HK8.out.later A8) (Blk.new w8 #[.int .i64 0, .int .i64 4, .slice (some ⟨W.heap.size, 0, none⟩) 3 3, .int .i64 2, .int .i64 9] 62)) (by decide) (by decide) yB_sp yB_sp true (decide_eq_true rfl))
  have HA8 := hid A8
  clear A8
  go_wp2_with fail
  refine Y8.out.mono ?_
  rintro e w9 ⟨rfl, hb9a⟩
  have hb9 : Below w8.heap.size w8 w9 := HA8.out.trans (hb9a.mono HA8.out.size)
  have HB9 := hid (HB8.out.trans (hb9.mono HB8.out.size))
  have HK9 := hid (HK8.out.later hb9)
  have HX9 := hid (HX8.out.later hb9)
  have HL9 := hid (HL8.out.later hb9)
  have HV9 := hid (HV8.out.later hb9)
  have HG9 := hid (HG8.out.later hb9)
  clear hb9 hb9a HA8 Y8 HB8 HK8 HX8 HL8 HU8 HV8 HG8 z0 z1 z2
  obtain ⟨z0, z1, z2, -⟩ := blk3' HX9.out
  have A9 : Below w9.heap.size w9 (w9.alloc (.cells #[.int .i64 0, .int .i64 4, .slice (some ⟨W.heap.size, 0, none⟩) 3 3] 60)) := (Below.refl _ _).alloc (Nat.le_refl _) _
  have Y9 := hid (bats_of (HV9.out.later A9) (HK9.out.later A9) (Blk.new w9 #[.int .i64 0, .int .i64 4, .slice (some ⟨W.heap.size, 0, none⟩) 3 3] 60))
  have HA9 := hid A9
  clear A9
  go_wp2_with fail
  refine Y9.out.mono ?_
  rintro e wa ⟨rfl, hbaa⟩
  have hba : Below w9.heap.size w9 wa := HA9.out.trans (hbaa.mono HA9.out.size)
  have HBa := hid (HB9.out.trans (hba.mono HB9.out.size))
  have HKa := hid (HK9.out.later hba)
  have HXa := hid (HX9.out.later hba)
  have HLa := hid (HL9.out.later hba)
  have HGa := hid (HG9.out.later hba)
  clear hba hbaa HA9 Y9 HB9 HK9 HX9 HL9 HV9 HG9 z0 z1 z2
  obtain ⟨z0, z1, z2, -⟩ := blk3' HXa.out
  have Aa : Below wa.heap.size wa (wa.alloc (.cells #[.int .i64 0, .int .i64 4, .slice (some ⟨W.heap.size, 0, none⟩) 3 3] 60)) := (Below.refl _ _).alloc (Nat.le_refl _) _
  have Ya := hid (bats_of (HGa.out.later Aa) (HKa.out.later Aa) (Blk.new wa #[.int .i64 0, .int .i64 4, .slice (some ⟨W.heap.size, 0, none⟩) 3 3] 60))
  have HAa := hid Aa
  clear Aa
  go_wp2_with fail
  refine Ya.out.mono ?_
  rintro e wb ⟨rfl, hbba⟩
  have hbb : Below wa.heap.size wa wb := HAa.out.trans (hbba.mono HAa.out.size)
  have HBb := hid (HBa.out.trans (hbb.mono HBa.out.size))
  have HLb := hid (HLa.out.later hbb)
  have Yb := hid (spans_of HLb.out (by decide) yA_sp)
  rw [show total [yA] = 3 from rfl] at Yb
  clear hbb hbba HAa Ya HBa HKa HXa HLa HGa z0 z1 z2
  go_wp2_with fail
  refine Yb.out.mono ?_
  rintro e wc ⟨rfl, hbc⟩
  have HBc := hid (HBb.out.trans (hbc.mono HBb.out.size))
  clear hbc
  go_wp2_with fail
  go_ret
  exact ⟨rfl, HBc.out⟩
end C26
end Go.Proofs.Ytdamnbldimompaa
