/- Walks of layer 30 (store): what must come of fixed calls; no condition. -/
import Derived.Test.YtdamnbldimompaaR30
namespace Go.Proofs.Ytdamnbldimompaa
open Go.RowKit Go.Peri
open Gen (rows_of_blk flat_set set_mid get_mid map_take_snoc owns_at owns_num owns_le owns_below owns_form)
namespace C30
open Kp (ix ixS)
theorem one_row {W : World} {k : Kp} {a : Option Addr} {n cap : Nat} {w : World} (h : AddR W [k] a n cap w) : ∃ (b off : Nat) (x : Kq), a = some ⟨b, off, none⟩ ∧ b < w.heap.size ∧ x.core = k ∧ ∀ j u, x.enc[j]? = some u → w.cell? ⟨b, off + j, none⟩ = some u := by
  obtain ⟨l1, h1, h2, _, h4, h5⟩ := h
  obtain ⟨x, rfl⟩ : ∃ x, l1 = [x] := by
    have : l1.length = 1 := by rw [← List.length_map (f := Kq.core), h2]; rfl
    exact List.length_eq_one_iff.1 this
  obtain ⟨a', c', e, _, _, _, h5⟩ := h4
  cases e
  rcases h5 with h5 | ⟨b, off, g1, g2, g3⟩
  · cases h5
  · refine ⟨b, off, x, g1, g2, by simpa using h2, fun j u hu => ?_⟩
    have := g3 0 (by simp) j u hu
    simpa using this
set_option maxRecDepth 100000 in
set_option maxHeartbeats 16000000 in
theorem known_any : Known := by
  intro W
  go_enter Try.func8, Try.ntmps8
  go_upto_region 3 with fail
  refine wp_gen ?_
  intro w1 hw1
  have hb1 : Below W.heap.size W w1 := by rw [hw1]; go_grown
  have hk1 : Blk w1 W.heap.size #[.int .u64 0, .int .u64 1, .int .u64 5, .int .u64 0, .string ByteArray.empty, .int .i64 0, .int .i64 0, .int .i64 0, .bool false, .int .i64 0, .int .i64 0] 27 := by rw [hw1]; exact (Blk.new _ _ _).alloc _
  have hk2 : Blk w1 (W.heap.size + 1) #[.int .u64 0, .int .u64 2, .int .u64 5, .int .u64 0, .string ByteArray.empty, .int .i64 0, .int .i64 0, .int .i64 0, .bool false, .int .i64 0, .int .i64 0] 27 := by rw [hw1]; exact Blk.new' _ _ _ (by simp)
  clear hw1
  have HB1 := hid hb1
  have HA1 := hid hk1
  have HV1 := hid hk2
  have X1 := hid (add_of (AddR.nil w1) 1 sA (by decide) (by simp))
  rw [kA1.1, kA1.2] at X1
  clear hb1 hk1 hk2
  obtain ⟨a0, a1, a2, a3, a4, a5, a6, a7, a8, a9, a10, -⟩ := blk11 HA1.out
  go_wp2_with fail
  refine X1.out.mono ?_
  rintro e w2 ⟨v2, rfl, p2, n2, c2, rfl, hr2⟩
  have HR2 := hid hr2
  obtain rfl : n2 = 1 := hr2.len
  have HB2 := hid (HB1.out.trans (hr2.below.mono HB1.out.size))
  have HA2 := hid (HA1.out.later hr2.below)
  have HV2 := hid (HV1.out.later hr2.below)
  have X2 := hid (add_of hr2 1 sB (by decide) (by simp [Kp.fresh]))
  rw [kA2.1, kA2.2] at X2
  clear hr2 a0 a1 a2 a3 a4 a5 a6 a7 a8 a9 a10 X1 HA1 HV1 HB1
  obtain ⟨a0, a1, a2, a3, a4, a5, a6, a7, a8, a9, a10, -⟩ := blk11 HV2.out
  go_wp2_with fail
  refine X2.out.mono ?_
  rintro e w3 ⟨v3, rfl, p3, n3, c3, rfl, hr3⟩
  have HR3 := hid hr3
  obtain rfl : n3 = 1 := hr3.len
  have HL3 := hid (HR2.out.later hr3.below)
  have HB3 := hid (HB2.out.trans (hr3.below.mono HB2.out.size))
  have HA3 := hid (HA2.out.later hr3.below)
  have HV3 := hid (HV2.out.later hr3.below)
  have X3 := hid (add_of HL3.out 1 sA (by decide) (by simp [Kp.fresh]))
  rw [kA3.1, kA3.2] at X3
  clear hr3 a0 a1 a2 a3 a4 a5 a6 a7 a8 a9 a10 X2 HA2 HV2 HB2 HR2
  obtain ⟨a0, a1, a2, a3, a4, a5, a6, a7, a8, a9, a10, -⟩ := blk11 HA3.out
  go_wp2_with fail
  refine X3.out.mono ?_
  rintro e w4 ⟨v4, rfl, p4, n4, c4, rfl, hr4⟩
  have HR4 := hid hr4
  obtain rfl : n4 = 1 := hr4.len
  have HL4 := hid (HL3.out.later hr4.below)
  have HM4 := hid (HR3.out.later hr4.below)
  have HB4 := hid (HB3.out.trans (hr4.below.mono HB3.out.size))
  have HA4 := hid (HA3.out.later hr4.below)
  have HV4 := hid (HV3.out.later hr4.below)
  have X4 := hid (add_of HL4.out 1 sC (by decide) (by simp [Kp.fresh]))
  rw [kA4] at X4
  clear hr4 a0 a1 a2 a3 a4 a5 a6 a7 a8 a9 a10 X3 HA3 HV3 HB3 HR3 HL3
  have a0 : w4.cell? ⟨W.heap.size, 0, none⟩ = some (.int .u64 0) := HA4.out.cell 0
  have a1 : w4.cell? ⟨W.heap.size, 1, none⟩ = some (.int .u64 1) := HA4.out.cell 1
  go_wp2_with fail
  refine X4.out.mono ?_
  rintro e w5 ⟨v5, rfl, p5, n5, c5, rfl, hr5⟩
  have HR5 := hid hr5
  obtain rfl : n5 = 1 := hr5.len
  have HL5 := hid (HL4.out.later hr5.below)
  have HM5 := hid (HM4.out.later hr5.below)
  have HN5 := hid (HR4.out.later hr5.below)
  have HB5 := hid (HB4.out.trans (hr5.below.mono HB4.out.size))
  have HA5 := hid (HA4.out.later hr5.below)
  have HV5 := hid (HV4.out.later hr5.below)
  have X5 := hid (get_of HL5.out 0 1 (by decide) (by simp [Kp.fresh]))
  clear hr5 a0 a1 X4 HA4 HV4 HB4 HR4 HL4 HM4
  have a0 : w5.cell? ⟨W.heap.size, 0, none⟩ = some (.int .u64 0) := HA5.out.cell 0
  have a1 : w5.cell? ⟨W.heap.size, 1, none⟩ = some (.int .u64 1) := HA5.out.cell 1
  go_wp2_with fail
  refine X5.out.mono ?_
  rintro e w6 ⟨v6, rfl, k, rfl, hck, hb6, hak⟩
  rw [kA5.1]
  rw [kA5.2] at hck
  have hkl : k.sp.length = 1 := congrArg (fun k => k.sp.length) hck
  rw [hkl]
  have HL6 := hid (HL5.out.later hb6)
  have HM6 := hid (HM5.out.later hb6)
  have HN6 := hid (HN5.out.later hb6)
  have HR6 := hid (HR5.out.later hb6)
  have HB6 := hid (HB5.out.trans (hb6.mono HB5.out.size))
  have HV6 := hid (HV5.out.later hb6)
  clear hb6 hck hak hkl a0 a1 X5 HA5 HV5 HB5 HL5 HM5 HN5 HR5
  go_upto_region 8 with fail
  refine wp_gen ?_
  intro w7 hw7
  have hb7 : Below w6.heap.size w6 w7 := by rw [hw7]; go_grown
  have hk7 : Blk w7 w6.heap.size #[.int .u64 k.hi, .int .u64 k.lo, .slice k.pa 1 k.pcap, .bool k.spilled, .bool k.clash] 34 := by rw [hw7]; exact Blk.new _ _ _
  clear hw7
  have HK7 := hid hk7
  have HL7 := hid (HL6.out.later hb7)
  have HM7 := hid (HM6.out.later hb7)
  have HN7 := hid (HN6.out.later hb7)
  have HR7 := hid (HR6.out.later hb7)
  have HB7 := hid (HB6.out.trans (hb7.mono HB6.out.size))
  have HV7 := hid (HV6.out.later hb7)
  have hgk := hk7.lt
  have hgv := HV7.out.lt
  clear hb7 hk7 HL6 HM6 HN6 HR6 HB6 HV6
  obtain ⟨g4, o4, x4, rfl, hg4, hx4, hc4⟩ := one_row HR7.out
  have hx4c : x4.clash = true := congrArg Kp.clash hx4
  have HC4 : Hid (w7.cell? ⟨g4, o4 + 4, none⟩ = some (.bool true)) := hid (by rw [← hx4c]; exact hc4 4 _ rfl)
  clear hc4 hx4 hx4c
  obtain ⟨kp, hkp⟩ : ∃ z, k.pa = z := ⟨_, rfl⟩
  obtain ⟨kc, hkc⟩ : ∃ z, k.pcap = z := ⟨_, rfl⟩
  rw [hkp, hkc] at HK7
  clear hkp hkc
  obtain ⟨gk, hgk2⟩ : ∃ z, w6.heap.size = z := ⟨_, rfl⟩
  rw [hgk2] at HK7 hgk
  rw [hgk2]
  clear hgk2
  have KEEP : Hid (∀ w', Below w7.heap.size w7 w' → w'.cell? ⟨W.heap.size + 1, 0, none⟩ = some (.int .u64 0) ∧ w'.cell? ⟨W.heap.size + 1, 1, none⟩ = some (.int .u64 2) ∧ w'.cell? ⟨W.heap.size + 1, 2, none⟩ = some (.int .u64 5) ∧ w'.cell? ⟨W.heap.size + 1, 3, none⟩ = some (.int .u64 0) ∧ w'.cell? ⟨W.heap.size + 1, 4, none⟩ = some (.string ByteArray.empty) ∧ w'.cell? ⟨W.heap.size + 1, 5, none⟩ = some (.int .i64 0) ∧ w'.cell? ⟨W.heap.size + 1, 6, none⟩ = some (.int .i64 0) ∧ w'.cell? ⟨W.heap.size + 1, 7, none⟩ = some (.int .i64 0) ∧ w'.cell? ⟨W.heap.size + 1, 8, none⟩ = some (.bool false) ∧ w'.cell? ⟨W.heap.size + 1, 9, none⟩ = some (.int .i64 0) ∧ w'.cell? ⟨W.heap.size + 1, 10, none⟩ = some (.int .i64 0) ∧ w'.cell? ⟨gk, 2, none⟩ = some (.slice kp 1 kc) ∧ w'.cell? ⟨g4, o4 + 4, none⟩ = some (.bool true)) := hid (fun w' hb => by
    have h1 := blk11 (HV7.out.later hb)
    have h2 := blk5 (HK7.out.later hb)
    exact ⟨h1.1, h1.2.1, h1.2.2.1, h1.2.2.2.1, h1.2.2.2.2.1, h1.2.2.2.2.2.1, h1.2.2.2.2.2.2.1, h1.2.2.2.2.2.2.2.1, h1.2.2.2.2.2.2.2.2.1, h1.2.2.2.2.2.2.2.2.2.1, h1.2.2.2.2.2.2.2.2.2.2.1, h2.2.2.1, (hb.cell (p := ⟨g4, o4 + 4, none⟩) hg4).trans HC4.out⟩)
  have XS1 : Hid (∀ (w' : World) (g1 g2 : Nat), Below w7.heap.size w7 w' → Blk w' g1 #[.int .u64 0, .int .u64 2, .int .u64 5, .int .u64 0, .string ByteArray.empty, .int .i64 0, .int .i64 0, .int .i64 0, .bool false, .int .i64 0, .int .i64 0] 27 → Blk w' g2 #[.int .u64 0, .int .u64 2, .slice (some ⟨g1, 0, none⟩) 1 1, .bool false, .bool false] 34 → Calls Try.prog 15 #[.slice p3 1 c3, .slice (some ⟨g2, 0, none⟩) 1 1] w' fun e w'' => e = .returned (.bool true) ∧ Below w7.heap.size w7 w'') := hid (fun w' g1 g2 hb k1 k2 => by
    have h0 : AddR w' [Kp.fresh sB] (some ⟨g2, 0, none⟩) 1 1 w' := by
      refine ⟨[⟨0, 2, some ⟨g1, 0, none⟩, 1, [sB], false, false⟩], rfl, rfl, Below.refl _ _, (rows_of_blk (l := [(⟨0, 2, some ⟨g1, 0, none⟩, 1, [sB], false, false⟩ : Kq)]) Kq.enc_length k2 rfl (by show 1 ≤ maxLen; decide)).imp (fun b hb => by rw [hb]; exact k2.lt), fun x hx => ?_⟩
      rw [List.mem_singleton.1 hx]
      exact (rows_of_blk (l := [sB]) (enc := Sp.enc) (k := 11) (fun _ => rfl) k1 rfl (by show 1 ≤ maxLen; decide)).imp (fun b hb => by rw [hb]; exact k1.lt)
    exact (same_add (HM7.out.later hb).self h0 (by decide) (by simp [Kp.fresh])).mono (fun e w'' hh => ⟨hh.1, hb.trans (hh.2.mono hb.size)⟩))
  have XS2 : Hid (∀ w', Below w7.heap.size w7 w' → Calls Try.prog 15 #[.slice p4 1 c4, .slice p2 1 c2] w' fun e w'' => e = .returned (.bool true) ∧ Below w7.heap.size w7 w'') := hid (fun w' hb =>
    (same_add (HN7.out.later hb) (HL7.out.later hb) (by decide) (by simp [Kp.fresh])).mono (fun e w'' hh => ⟨hh.1, hb.trans (hh.2.mono hb.size)⟩))
  have XT : Hid (∀ w', Below w7.heap.size w7 w' → Calls Try.prog 13 #[.slice p3 1 c3] w' fun e w'' => ∃ tg tc, e = .returned (.slice (some ⟨tg, 0, none⟩) 1 tc) ∧ Below w7.heap.size w7 w'' ∧ tg < w''.heap.size ∧ w''.cell? ⟨tg, 0, none⟩ = some (.int .u64 0) ∧ w''.cell? ⟨tg, 1, none⟩ = some (.int .u64 2)) := hid (fun w' hb =>
    (traces_of (HM7.out.later hb) (by decide)).mono (fun e w'' hh => by
      obtain ⟨ta, tc, rfl, hb2, ho⟩ := hh
      obtain ⟨tg, tc2, e2, h1, h2⟩ := owns_at ho.out (by decide)
      cases e2
      exact ⟨tg, tc, rfl, hb.trans (hb2.mono hb.size), h2, ho.out.cellAt 0 (by decide), ho.out.cellAt 1 (by decide)⟩))
  have hkk := KEEP.out w7 (Below.refl _ _)
  have hee := eqTr 0 2 0 2
  rw [decide_eq_true (show (0 : Nat) = 0 ∧ (2 : Nat) = 2 from ⟨rfl, rfl⟩)] at hee
  have HBW := hid HB7.out
  clear HK7 HL7 HM7 HN7 HR7 HB7 HV7 HC4 hkk
  go_wp2_with fail
  refine wp_region_held_drew (S := (fun w' => w'.cell? ⟨W.heap.size + 1, 0, none⟩ = some (.int .u64 0) ∧ w'.cell? ⟨W.heap.size + 1, 1, none⟩ = some (.int .u64 2) ∧ w'.cell? ⟨W.heap.size + 1, 2, none⟩ = some (.int .u64 5) ∧ w'.cell? ⟨W.heap.size + 1, 3, none⟩ = some (.int .u64 0) ∧ w'.cell? ⟨W.heap.size + 1, 4, none⟩ = some (.string ByteArray.empty) ∧ w'.cell? ⟨W.heap.size + 1, 5, none⟩ = some (.int .i64 0) ∧ w'.cell? ⟨W.heap.size + 1, 6, none⟩ = some (.int .i64 0) ∧ w'.cell? ⟨W.heap.size + 1, 7, none⟩ = some (.int .i64 0) ∧ w'.cell? ⟨W.heap.size + 1, 8, none⟩ = some (.bool false) ∧ w'.cell? ⟨W.heap.size + 1, 9, none⟩ = some (.int .i64 0) ∧ w'.cell? ⟨W.heap.size + 1, 10, none⟩ = some (.int .i64 0) ∧ w'.cell? ⟨gk, 2, none⟩ = some (.slice kp 1 kc) ∧ w'.cell? ⟨g4, o4 + 4, none⟩ = some (.bool true))) (by kernel_rfl) (by (refine KEEP.out _ ?_; (repeat' (first | assumption | (with_reducible exact Below.refl _ _) | (with_reducible refine Below.drew ?_) | (with_reducible refine Below.alloc ?_ (by first | exact Nat.le_refl _ | (exact Below.size (by assumption)) | (simp; done) | (simp; omega)) _))))) (fun hHeld => ?_)
  refine wpAnyH_take (i := 0) (oi := ⟨_, _, _, _, _, _⟩) (v := ?_) rfl (by kernel_rfl) (by kernel_rfl) (by kernel_rfl) (fun _ _ _ h => h) (Or.inl ⟨by rfl, ?_⟩) hHeld ?_
  rotate_left
  · (intro w hSw; (try dsimp only at hSw); go_simp) <;> with_reducible rfl
  try simp only [Act.put, List.setIfInBounds_toArray, List.set_cons_zero, List.set_cons_succ]
  refine wpAnyH_take (i := 1) (oi := ⟨_, _, _, _, _, _⟩) (v := ?_) rfl (by kernel_rfl) (by kernel_rfl) (by kernel_rfl) (fun _ _ _ h => h) (Or.inl ⟨by rfl, ?_⟩) hHeld ?_
  rotate_left
  · (intro w hSw; (try dsimp only at hSw); go_simp) <;> with_reducible rfl
  try simp only [Act.put, List.setIfInBounds_toArray, List.set_cons_zero, List.set_cons_succ]
  refine wpAnyH_take (i := 2) (oi := ⟨_, _, _, _, _, _⟩) (v := ?_) rfl (by kernel_rfl) (by kernel_rfl) (by kernel_rfl) (fun _ _ _ h => h) (Or.inl ⟨by rfl, ?_⟩) hHeld ?_
  rotate_left
  · (intro w hSw; (try dsimp only at hSw); go_simp) <;> with_reducible rfl
  try simp only [Act.put, List.setIfInBounds_toArray, List.set_cons_zero, List.set_cons_succ]
  refine wpAnyH_take (i := 3) (oi := ⟨_, _, _, _, _, _⟩) (v := ?_) rfl (by kernel_rfl) (by kernel_rfl) (by kernel_rfl) (fun _ _ _ h => h) (Or.inl ⟨by rfl, ?_⟩) hHeld ?_
  rotate_left
  · (intro w hSw; (try dsimp only at hSw); go_simp) <;> with_reducible rfl
  try simp only [Act.put, List.setIfInBounds_toArray, List.set_cons_zero, List.set_cons_succ]
  refine wpAnyH_take (i := 4) (oi := ⟨_, _, _, _, _, _⟩) (v := ?_) rfl (by kernel_rfl) (by kernel_rfl) (by kernel_rfl) (fun _ _ _ h => h) (Or.inl ⟨by rfl, ?_⟩) hHeld ?_
  rotate_left
  · (intro w hSw; (try dsimp only at hSw); go_simp) <;> with_reducible rfl
  try simp only [Act.put, List.setIfInBounds_toArray, List.set_cons_zero, List.set_cons_succ]
  refine wpAnyH_take (i := 5) (oi := ⟨_, _, _, _, _, _⟩) (v := ?_) rfl (by kernel_rfl) (by kernel_rfl) (by kernel_rfl) (fun _ _ _ h => h) (Or.inl ⟨by rfl, ?_⟩) hHeld ?_
  rotate_left
  · (intro w hSw; (try dsimp only at hSw); go_simp) <;> with_reducible rfl
  try simp only [Act.put, List.setIfInBounds_toArray, List.set_cons_zero, List.set_cons_succ]
  refine wpAnyH_take (i := 6) (oi := ⟨_, _, _, _, _, _⟩) (v := ?_) rfl (by kernel_rfl) (by kernel_rfl) (by kernel_rfl) (fun _ _ _ h => h) (Or.inl ⟨by rfl, ?_⟩) hHeld ?_
  rotate_left
  · (intro w hSw; (try dsimp only at hSw); go_simp) <;> with_reducible rfl
  try simp only [Act.put, List.setIfInBounds_toArray, List.set_cons_zero, List.set_cons_succ]
  refine wpAnyH_take (i := 7) (oi := ⟨_, _, _, _, _, _⟩) (v := ?_) rfl (by kernel_rfl) (by kernel_rfl) (by kernel_rfl) (fun _ _ _ h => h) (Or.inl ⟨by rfl, ?_⟩) hHeld ?_
  rotate_left
  · (intro w hSw; (try dsimp only at hSw); go_simp) <;> with_reducible rfl
  try simp only [Act.put, List.setIfInBounds_toArray, List.set_cons_zero, List.set_cons_succ]
  refine wpAnyH_take (i := 8) (oi := ⟨_, _, _, _, _, _⟩) (v := ?_) rfl (by kernel_rfl) (by kernel_rfl) (by kernel_rfl) (fun _ _ _ h => h) (Or.inl ⟨by rfl, ?_⟩) hHeld ?_
  rotate_left
  · (intro w hSw; (try dsimp only at hSw); go_simp) <;> with_reducible rfl
  try simp only [Act.put, List.setIfInBounds_toArray, List.set_cons_zero, List.set_cons_succ]
  refine wpAnyH_take (i := 9) (oi := ⟨_, _, _, _, _, _⟩) (v := ?_) rfl (by kernel_rfl) (by kernel_rfl) (by kernel_rfl) (fun _ _ _ h => h) (Or.inl ⟨by rfl, ?_⟩) hHeld ?_
  rotate_left
  · (intro w hSw; (try dsimp only at hSw); go_simp) <;> with_reducible rfl
  try simp only [Act.put, List.setIfInBounds_toArray, List.set_cons_zero, List.set_cons_succ]
  refine wpAnyH_take (i := 10) (oi := ⟨_, _, _, _, _, _⟩) (v := ?_) rfl (by kernel_rfl) (by kernel_rfl) (by kernel_rfl) (fun _ _ _ h => h) (Or.inl ⟨by rfl, ?_⟩) hHeld ?_
  rotate_left
  · (intro w hSw; (try dsimp only at hSw); go_simp) <;> with_reducible rfl
  try simp only [Act.put, List.setIfInBounds_toArray, List.set_cons_zero, List.set_cons_succ]
  refine wpAnyH_ready (rs := [11]) (by kernel_rfl) (by simp) ?_
  refine AllReadyH.cons (o := ⟨_, _, _, _, _, _⟩) rfl (fun K hK => ?_) AllReadyH.nil
  clear hHeld
  go_simp
  refine hK.out _ _ (by (refine KEEP.out _ ?_; (repeat' (first | assumption | (with_reducible exact Below.refl _ _) | (with_reducible refine Below.drew ?_) | (with_reducible refine Below.alloc ?_ (by first | exact Nat.le_refl _ | (exact Below.size (by assumption)) | (simp; done) | (simp; omega)) _))))) (fun hHeld => ?_)
  clear hK K
  try simp only [Act.put, List.setIfInBounds_toArray, List.set_cons_zero, List.set_cons_succ]
  refine wpAnyH_take (i := 12) (oi := ⟨_, _, _, _, _, _⟩) (v := ?_) rfl (by kernel_rfl) (by kernel_rfl) (by kernel_rfl) (fun _ _ _ h => h) (Or.inl ⟨by rfl, ?_⟩) hHeld ?_
  rotate_left
  · (intro w hSw; (try dsimp only at hSw); go_simp) <;> with_reducible rfl
  try simp only [Act.put, List.setIfInBounds_toArray, List.set_cons_zero, List.set_cons_succ]
  refine wpAnyH_ready (rs := [13]) (by kernel_rfl) (by simp) ?_
  refine AllReadyH.cons (o := ⟨_, _, _, _, _, _⟩) rfl (fun K hK => ?_) AllReadyH.nil
  clear hHeld
  go_simp
  refine hK.out _ _ (by (refine KEEP.out _ ?_; (repeat' (first | assumption | (with_reducible exact Below.refl _ _) | (with_reducible refine Below.drew ?_) | (with_reducible refine Below.alloc ?_ (by first | exact Nat.le_refl _ | (exact Below.size (by assumption)) | (simp; done) | (simp; omega)) _))))) (fun hHeld => ?_)
  clear hK K
  try simp only [Act.put, List.setIfInBounds_toArray, List.set_cons_zero, List.set_cons_succ]
  refine wpAnyH_ready (rs := [14]) (by kernel_rfl) (by simp) ?_
  refine AllReadyH.cons (o := ⟨_, _, _, _, _, _⟩) rfl (fun K hK => ?_) AllReadyH.nil
  clear hHeld
  go_simp
  go_at_call 15
  refine (XS1.out _ w7.heap.size _ (by (repeat' (first | assumption | (with_reducible exact Below.refl _ _) | (with_reducible refine Below.drew ?_) | (with_reducible refine Below.alloc ?_ (by first | exact Nat.le_refl _ | (exact Below.size (by assumption)) | (simp; done) | (simp; omega)) _)))) (by first | exact (Blk.new _ _ _).alloc _ | exact ((Blk.new _ _ _).alloc _).drew | exact (Blk.new' _ _ _ (by simp)).alloc _) (by first | exact Blk.new' _ _ _ (by simp) | exact (Blk.new' _ _ _ (by simp)).drew)).mono ?_
  rintro e ws ⟨rfl, hsW⟩
  refine hK.out _ _ (by (refine KEEP.out _ ?_; (repeat' (first | assumption | (with_reducible exact Below.refl _ _) | (with_reducible refine Below.drew ?_) | (with_reducible refine Below.alloc ?_ (by first | exact Nat.le_refl _ | (exact Below.size (by assumption)) | (simp; done) | (simp; omega)) _))))) (fun hHeld => ?_)
  clear hK K
  try simp only [Act.put, List.setIfInBounds_toArray, List.set_cons_zero, List.set_cons_succ]
  refine wpAnyH_take (i := 15) (oi := ⟨_, _, _, _, _, _⟩) (v := ?_) rfl (by kernel_rfl) (by kernel_rfl) (by kernel_rfl) (fun _ _ _ h => h) (Or.inl ⟨by rfl, ?_⟩) hHeld ?_
  rotate_left
  · (intro w hSw; (try dsimp only at hSw); go_simp) <;> with_reducible rfl
  try simp only [Act.put, List.setIfInBounds_toArray, List.set_cons_zero, List.set_cons_succ]
  refine wpAnyH_take (i := 16) (oi := ⟨_, _, _, _, _, _⟩) (v := ?_) rfl (by kernel_rfl) (by kernel_rfl) (by kernel_rfl) (fun _ _ _ h => h) (Or.inl ⟨by rfl, ?_⟩) hHeld ?_
  rotate_left
  · (intro w hSw; (try dsimp only at hSw); go_simp) <;> with_reducible rfl
  try simp only [Act.put, List.setIfInBounds_toArray, List.set_cons_zero, List.set_cons_succ]
  refine wpAnyH_take (i := 17) (oi := ⟨_, _, _, _, _, _⟩) (v := ?_) rfl (by kernel_rfl) (by kernel_rfl) (by kernel_rfl) (fun _ _ _ h => h) (Or.inl ⟨by rfl, ?_⟩) hHeld ?_
  rotate_left
  · (intro w hSw; (try dsimp only at hSw); go_simp) <;> with_reducible rfl
  try simp only [Act.put, List.setIfInBounds_toArray, List.set_cons_zero, List.set_cons_succ]
  refine wpAnyH_take (i := 18) (oi := ⟨_, _, _, _, _, _⟩) (v := ?_) rfl (by kernel_rfl) (by kernel_rfl) (by kernel_rfl) (fun _ _ _ h => h) (Or.inl ⟨by rfl, ?_⟩) hHeld ?_
  rotate_left
  · (intro w hSw; (try dsimp only at hSw); go_simp) <;> with_reducible rfl
  try simp only [Act.put, List.setIfInBounds_toArray, List.set_cons_zero, List.set_cons_succ]
  refine wpAnyH_ready (rs := [19]) (by kernel_rfl) (by simp) ?_
  refine AllReadyH.cons (o := ⟨_, _, _, _, _, _⟩) rfl (fun K hK => ?_) AllReadyH.nil
  clear hHeld
  go_simp
  go_at_call 15
  refine (XS2.out _ (by assumption)).mono ?_
  rintro e ws2 ⟨rfl, hsW2⟩
  refine hK.out _ _ (by (refine KEEP.out _ ?_; (repeat' (first | assumption | (with_reducible exact Below.refl _ _) | (with_reducible refine Below.drew ?_) | (with_reducible refine Below.alloc ?_ (by first | exact Nat.le_refl _ | (exact Below.size (by assumption)) | (simp; done) | (simp; omega)) _))))) (fun hHeld => ?_)
  clear hK K
  try simp only [Act.put, List.setIfInBounds_toArray, List.set_cons_zero, List.set_cons_succ]
  refine wpAnyH_take (i := 20) (oi := ⟨_, _, _, _, _, _⟩) (v := ?_) rfl (by kernel_rfl) (by kernel_rfl) (by kernel_rfl) (fun _ _ _ h => h) (Or.inl ⟨by rfl, ?_⟩) hHeld ?_
  rotate_left
  · (intro w hSw; (try dsimp only at hSw); go_simp) <;> with_reducible rfl
  try simp only [Act.put, List.setIfInBounds_toArray, List.set_cons_zero, List.set_cons_succ]
  refine wpAnyH_take (i := 21) (oi := ⟨_, _, _, _, _, _⟩) (v := ?_) rfl (by kernel_rfl) (by kernel_rfl) (by kernel_rfl) (fun _ _ _ h => h) (Or.inl ⟨by rfl, ?_⟩) hHeld ?_
  rotate_left
  · (intro w hSw; (try dsimp only at hSw); go_simp) <;> with_reducible rfl
  try simp only [Act.put, List.setIfInBounds_toArray, List.set_cons_zero, List.set_cons_succ]
  refine wpAnyH_take (i := 22) (oi := ⟨_, _, _, _, _, _⟩) (v := ?_) rfl (by kernel_rfl) (by kernel_rfl) (by kernel_rfl) (fun _ _ _ h => h) (Or.inl ⟨by rfl, ?_⟩) hHeld ?_
  rotate_left
  · (intro w hSw; (try dsimp only at hSw); go_simp) <;> with_reducible rfl
  try simp only [Act.put, List.setIfInBounds_toArray, List.set_cons_zero, List.set_cons_succ]
  refine wpAnyH_take (i := 23) (oi := ⟨_, _, _, _, _, _⟩) (v := ?_) rfl (by kernel_rfl) (by kernel_rfl) (by kernel_rfl) (fun _ _ _ h => h) (Or.inl ⟨by rfl, ?_⟩) hHeld ?_
  rotate_left
  · (intro w hSw; (try dsimp only at hSw); go_simp) <;> with_reducible rfl
  try simp only [Act.put, List.setIfInBounds_toArray, List.set_cons_zero, List.set_cons_succ]
  refine wpAnyH_take (i := 24) (oi := ⟨_, _, _, _, _, _⟩) (v := ?_) rfl (by kernel_rfl) (by kernel_rfl) (by kernel_rfl) (fun _ _ _ h => h) (Or.inl ⟨by rfl, ?_⟩) hHeld ?_
  rotate_left
  · (intro w hSw; (try dsimp only at hSw); go_simp) <;> with_reducible rfl
  try simp only [Act.put, List.setIfInBounds_toArray, List.set_cons_zero, List.set_cons_succ]
  refine wpAnyH_take (i := 25) (oi := ⟨_, _, _, _, _, _⟩) (v := ?_) rfl (by kernel_rfl) (by kernel_rfl) (by kernel_rfl) (fun _ _ _ h => h) (Or.inl ⟨by rfl, ?_⟩) hHeld ?_
  rotate_left
  · (intro w hSw; (try dsimp only at hSw); go_simp) <;> with_reducible rfl
  try simp only [Act.put, List.setIfInBounds_toArray, List.set_cons_zero, List.set_cons_succ]
  refine wpAnyH_take (i := 26) (oi := ⟨_, _, _, _, _, _⟩) (v := ?_) rfl (by kernel_rfl) (by kernel_rfl) (by kernel_rfl) (fun _ _ _ h => h) (Or.inl ⟨by rfl, ?_⟩) hHeld ?_
  rotate_left
  · (intro w hSw; (try dsimp only at hSw); go_simp) <;> with_reducible rfl
  try simp only [Act.put, List.setIfInBounds_toArray, List.set_cons_zero, List.set_cons_succ]
  refine wpAnyH_take (i := 27) (oi := ⟨_, _, _, _, _, _⟩) (v := ?_) rfl (by kernel_rfl) (by kernel_rfl) (by kernel_rfl) (fun _ _ _ h => h) (Or.inl ⟨by rfl, ?_⟩) hHeld ?_
  rotate_left
  · (intro w hSw; (try dsimp only at hSw); go_simp) <;> with_reducible rfl
  try simp only [Act.put, List.setIfInBounds_toArray, List.set_cons_zero, List.set_cons_succ]
  refine wpAnyH_take (i := 28) (oi := ⟨_, _, _, _, _, _⟩) (v := ?_) rfl (by kernel_rfl) (by kernel_rfl) (by kernel_rfl) (fun _ _ _ h => h) (Or.inl ⟨by rfl, ?_⟩) hHeld ?_
  rotate_left
  · (intro w hSw; (try dsimp only at hSw); go_simp) <;> with_reducible rfl
  try simp only [Act.put, List.setIfInBounds_toArray, List.set_cons_zero, List.set_cons_succ]
  refine wpAnyH_take (i := 29) (oi := ⟨_, _, _, _, _, _⟩) (v := ?_) rfl (by kernel_rfl) (by kernel_rfl) (by kernel_rfl) (fun _ _ _ h => h) (Or.inl ⟨by rfl, ?_⟩) hHeld ?_
  rotate_left
  · (intro w hSw; (try dsimp only at hSw); go_simp) <;> with_reducible rfl
  try simp only [Act.put, List.setIfInBounds_toArray, List.set_cons_zero, List.set_cons_succ]
  refine wpAnyH_take (i := 30) (oi := ⟨_, _, _, _, _, _⟩) (v := ?_) rfl (by kernel_rfl) (by kernel_rfl) (by kernel_rfl) (fun _ _ _ h => h) (Or.inl ⟨by rfl, ?_⟩) hHeld ?_
  rotate_left
  · (intro w hSw; (try dsimp only at hSw); go_simp) <;> with_reducible rfl
  try simp only [Act.put, List.setIfInBounds_toArray, List.set_cons_zero, List.set_cons_succ]
  refine wpAnyH_take (i := 31) (oi := ⟨_, _, _, _, _, _⟩) (v := ?_) rfl (by kernel_rfl) (by kernel_rfl) (by kernel_rfl) (fun _ _ _ h => h) (Or.inl ⟨by rfl, ?_⟩) hHeld ?_
  rotate_left
  · (intro w hSw; (try dsimp only at hSw); go_simp) <;> with_reducible rfl
  try simp only [Act.put, List.setIfInBounds_toArray, List.set_cons_zero, List.set_cons_succ]
  refine wpAnyH_take (i := 32) (oi := ⟨_, _, _, _, _, _⟩) (v := ?_) rfl (by kernel_rfl) (by kernel_rfl) (by kernel_rfl) (fun _ _ _ h => h) (Or.inl ⟨by rfl, ?_⟩) hHeld ?_
  rotate_left
  · (intro w hSw; (try dsimp only at hSw); go_simp) <;> with_reducible rfl
  try simp only [Act.put, List.setIfInBounds_toArray, List.set_cons_zero, List.set_cons_succ]
  refine wpAnyH_take (i := 33) (oi := ⟨_, _, _, _, _, _⟩) (v := ?_) rfl (by kernel_rfl) (by kernel_rfl) (by kernel_rfl) (fun _ _ _ h => h) (Or.inl ⟨by rfl, ?_⟩) hHeld ?_
  rotate_left
  · (intro w hSw; (try dsimp only at hSw); go_simp) <;> with_reducible rfl
  try simp only [Act.put, List.setIfInBounds_toArray, List.set_cons_zero, List.set_cons_succ]
  refine wpAnyH_take (i := 34) (oi := ⟨_, _, _, _, _, _⟩) (v := ?_) rfl (by kernel_rfl) (by kernel_rfl) (by kernel_rfl) (fun _ _ _ h => h) (Or.inl ⟨by rfl, ?_⟩) hHeld ?_
  rotate_left
  · (intro w hSw; (try dsimp only at hSw); go_simp) <;> with_reducible rfl
  try simp only [Act.put, List.setIfInBounds_toArray, List.set_cons_zero, List.set_cons_succ]
  refine wpAnyH_take (i := 35) (oi := ⟨_, _, _, _, _, _⟩) (v := ?_) rfl (by kernel_rfl) (by kernel_rfl) (by kernel_rfl) (fun _ _ _ h => h) (Or.inl ⟨by rfl, ?_⟩) hHeld ?_
  rotate_left
  · (intro w hSw; (try dsimp only at hSw); go_simp) <;> with_reducible rfl
  try simp only [Act.put, List.setIfInBounds_toArray, List.set_cons_zero, List.set_cons_succ]
  refine wpAnyH_take (i := 36) (oi := ⟨_, _, _, _, _, _⟩) (v := ?_) rfl (by kernel_rfl) (by kernel_rfl) (by kernel_rfl) (fun _ _ _ h => h) (Or.inl ⟨by rfl, ?_⟩) hHeld ?_
  rotate_left
  · (intro w hSw; (try dsimp only at hSw); go_simp) <;> with_reducible rfl
  try simp only [Act.put, List.setIfInBounds_toArray, List.set_cons_zero, List.set_cons_succ]
  refine wpAnyH_take (i := 37) (oi := ⟨_, _, _, _, _, _⟩) (v := ?_) rfl (by kernel_rfl) (by kernel_rfl) (by kernel_rfl) (fun _ _ _ h => h) (Or.inl ⟨by rfl, ?_⟩) hHeld ?_
  rotate_left
  · (intro w hSw; (try dsimp only at hSw); go_simp) <;> with_reducible rfl
  try simp only [Act.put, List.setIfInBounds_toArray, List.set_cons_zero, List.set_cons_succ]
  refine wpAnyH_take (i := 38) (oi := ⟨_, _, _, _, _, _⟩) (v := ?_) rfl (by kernel_rfl) (by kernel_rfl) (by kernel_rfl) (fun _ _ _ h => h) (Or.inl ⟨by rfl, ?_⟩) hHeld ?_
  rotate_left
  · (intro w hSw; (try dsimp only at hSw); go_simp) <;> with_reducible rfl
  try simp only [Act.put, List.setIfInBounds_toArray, List.set_cons_zero, List.set_cons_succ]
  refine wpAnyH_take (i := 39) (oi := ⟨_, _, _, _, _, _⟩) (v := ?_) rfl (by kernel_rfl) (by kernel_rfl) (by kernel_rfl) (fun _ _ _ h => h) (Or.inl ⟨by rfl, ?_⟩) hHeld ?_
  rotate_left
  · (intro w hSw; (try dsimp only at hSw); go_simp) <;> with_reducible rfl
  try simp only [Act.put, List.setIfInBounds_toArray, List.set_cons_zero, List.set_cons_succ]
  refine wpAnyH_take (i := 40) (oi := ⟨_, _, _, _, _, _⟩) (v := ?_) rfl (by kernel_rfl) (by kernel_rfl) (by kernel_rfl) (fun _ _ _ h => h) (Or.inl ⟨by rfl, ?_⟩) hHeld ?_
  rotate_left
  · (intro w hSw; (try dsimp only at hSw); go_simp) <;> with_reducible rfl
  try simp only [Act.put, List.setIfInBounds_toArray, List.set_cons_zero, List.set_cons_succ]
  refine wpAnyH_take (i := 41) (oi := ⟨_, _, _, _, _, _⟩) (v := ?_) rfl (by kernel_rfl) (by kernel_rfl) (by kernel_rfl) (fun _ _ _ h => h) (Or.inl ⟨by rfl, ?_⟩) hHeld ?_
  rotate_left
  · (intro w hSw; (try dsimp only at hSw); go_simp) <;> with_reducible rfl
  try simp only [Act.put, List.setIfInBounds_toArray, List.set_cons_zero, List.set_cons_succ]
  refine wpAnyH_take (i := 42) (oi := ⟨_, _, _, _, _, _⟩) (v := ?_) rfl (by kernel_rfl) (by kernel_rfl) (by kernel_rfl) (fun _ _ _ h => h) (Or.inl ⟨by rfl, ?_⟩) hHeld ?_
  rotate_left
  · (intro w hSw; (try dsimp only at hSw); go_simp) <;> with_reducible rfl
  try simp only [Act.put, List.setIfInBounds_toArray, List.set_cons_zero, List.set_cons_succ]
  refine wpAnyH_ready (rs := [43]) (by kernel_rfl) (by simp) ?_
  refine AllReadyH.cons (o := ⟨_, _, _, _, _, _⟩) rfl (fun K hK => ?_) AllReadyH.nil
  clear hHeld
  go_simp
  go_at_call 13
  refine (XT.out _ (by assumption)).mono ?_
  rintro e wt ⟨tg, tc, rfl, htW, htl, t0, t1⟩
  refine hK.out _ _ (by (refine KEEP.out _ ?_; (repeat' (first | assumption | (with_reducible exact Below.refl _ _) | (with_reducible refine Below.drew ?_) | (with_reducible refine Below.alloc ?_ (by first | exact Nat.le_refl _ | (exact Below.size (by assumption)) | (simp; done) | (simp; omega)) _))))) (fun hHeld => ?_)
  clear hK K
  try simp only [Act.put, List.setIfInBounds_toArray, List.set_cons_zero, List.set_cons_succ]
  refine wpAnyH_take (i := 44) (oi := ⟨_, _, _, _, _, _⟩) (v := ?_) rfl (by kernel_rfl) (by kernel_rfl) (by kernel_rfl) (fun _ _ _ h => h) (Or.inl ⟨by rfl, ?_⟩) hHeld ?_
  rotate_left
  · (intro w hSw; (try dsimp only at hSw); go_simp) <;> with_reducible rfl
  try simp only [Act.put, List.setIfInBounds_toArray, List.set_cons_zero, List.set_cons_succ]
  refine wpAnyH_take (i := 45) (oi := ⟨_, _, _, _, _, _⟩) (v := ?_) rfl (by kernel_rfl) (by kernel_rfl) (by kernel_rfl) (fun _ _ _ h => h) (Or.inl ⟨by rfl, ?_⟩) hHeld ?_
  rotate_left
  · (intro w hSw; (try dsimp only at hSw); go_simp) <;> with_reducible rfl
  try simp only [Act.put, List.setIfInBounds_toArray, List.set_cons_zero, List.set_cons_succ]
  refine wpAnyH_take (i := 46) (oi := ⟨_, _, _, _, _, _⟩) (v := ?_) rfl (by kernel_rfl) (by kernel_rfl) (by kernel_rfl) (fun _ _ _ h => h) (Or.inl ⟨by rfl, ?_⟩) hHeld ?_
  rotate_left
  · (intro w hSw; (try dsimp only at hSw); go_simp) <;> with_reducible rfl
  try simp only [Act.put, List.setIfInBounds_toArray, List.set_cons_zero, List.set_cons_succ]
  refine wpAnyH_take (i := 47) (oi := ⟨_, _, _, _, _, _⟩) (v := ?_) rfl (by kernel_rfl) (by kernel_rfl) (by kernel_rfl) (fun _ _ _ h => h) (Or.inl ⟨by rfl, ?_⟩) hHeld ?_
  rotate_left
  · (intro w hSw; (try dsimp only at hSw); go_simp) <;> with_reducible rfl
  try simp only [Act.put, List.setIfInBounds_toArray, List.set_cons_zero, List.set_cons_succ]
  refine wpAnyH_take (i := 48) (oi := ⟨_, _, _, _, _, _⟩) (v := ?_) rfl (by kernel_rfl) (by kernel_rfl) (by kernel_rfl) (fun _ _ _ h => h) (Or.inl ⟨by rfl, ?_⟩) hHeld ?_
  rotate_left
  · (intro w hSw; (try dsimp only at hSw); go_simp) <;> with_reducible rfl
  try simp only [Act.put, List.setIfInBounds_toArray, List.set_cons_zero, List.set_cons_succ]
  refine wpAnyH_take (i := 52) (oi := ⟨_, _, _, _, _, _⟩) (v := ?_) rfl (by kernel_rfl) (by kernel_rfl) (by kernel_rfl) (fun _ _ _ h => h) (Or.inl ⟨by rfl, ?_⟩) hHeld ?_
  rotate_left
  · (intro w hSw; (try dsimp only at hSw); go_simp) <;> with_reducible rfl
  try simp only [Act.put, List.setIfInBounds_toArray, List.set_cons_zero, List.set_cons_succ]
  refine wpAnyH_take (i := 53) (oi := ⟨_, _, _, _, _, _⟩) (v := ?_) rfl (by kernel_rfl) (by kernel_rfl) (by kernel_rfl) (fun _ _ _ h => h) (Or.inl ⟨by rfl, ?_⟩) hHeld ?_
  rotate_left
  · (intro w hSw; (try dsimp only at hSw); go_simp) <;> with_reducible rfl
  try simp only [Act.put, List.setIfInBounds_toArray, List.set_cons_zero, List.set_cons_succ]
  refine wpAnyH_ready (rs := [49]) (by kernel_rfl) (by simp) ?_
  refine AllReadyH.cons (o := ⟨_, _, _, _, _, _⟩) rfl (fun K hK => ?_) AllReadyH.nil
  clear hHeld
  go_simp
  go_at_call 13
  refine (XT.out _ (by assumption)).mono ?_
  rintro e wt ⟨tg, tc, rfl, htW, htl, t0, t1⟩
  refine hK.out _ _ (by (refine KEEP.out _ ?_; (repeat' (first | assumption | (with_reducible exact Below.refl _ _) | (with_reducible refine Below.drew ?_) | (with_reducible refine Below.alloc ?_ (by first | exact Nat.le_refl _ | (exact Below.size (by assumption)) | (simp; done) | (simp; omega)) _))))) (fun hHeld => ?_)
  clear hK K
  try simp only [Act.put, List.setIfInBounds_toArray, List.set_cons_zero, List.set_cons_succ]
  refine wpAnyH_take (i := 50) (oi := ⟨_, _, _, _, _, _⟩) (v := ?_) rfl (by kernel_rfl) (by kernel_rfl) (by kernel_rfl) (fun _ _ _ h => h) (Or.inl ⟨by rfl, ?_⟩) hHeld ?_
  rotate_left
  · (intro w hSw; (try dsimp only at hSw); go_simp) <;> with_reducible rfl
  try simp only [Act.put, List.setIfInBounds_toArray, List.set_cons_zero, List.set_cons_succ]
  refine wpAnyH_ready (rs := [51]) (by kernel_rfl) (by simp) ?_
  refine AllReadyH.cons (o := ⟨_, _, _, _, _, _⟩) rfl (fun K hK => ?_) AllReadyH.nil
  clear hHeld
  go_simp
  refine hK.out _ _ (by (refine KEEP.out _ ?_; (repeat' (first | assumption | (with_reducible exact Below.refl _ _) | (with_reducible refine Below.drew ?_) | (with_reducible refine Below.alloc ?_ (by first | exact Nat.le_refl _ | (exact Below.size (by assumption)) | (simp; done) | (simp; omega)) _))))) (fun hHeld => ?_)
  clear hK K
  try simp only [Act.put, List.setIfInBounds_toArray, List.set_cons_zero, List.set_cons_succ]
  refine wpAnyH_take (i := 54) (oi := ⟨_, _, _, _, _, _⟩) (v := ?_) rfl (by kernel_rfl) (by kernel_rfl) (by kernel_rfl) (fun _ _ _ h => h) (Or.inl ⟨by rfl, ?_⟩) hHeld ?_
  rotate_left
  · (intro w hSw; (try dsimp only at hSw); go_simp) <;> with_reducible rfl
  try simp only [Act.put, List.setIfInBounds_toArray, List.set_cons_zero, List.set_cons_succ]
  refine wpAnyH_take (i := 55) (oi := ⟨_, _, _, _, _, _⟩) (v := ?_) rfl (by kernel_rfl) (by kernel_rfl) (by kernel_rfl) (fun _ _ _ h => h) (Or.inl ⟨by rfl, ?_⟩) hHeld ?_
  rotate_left
  · (intro w hSw; (try dsimp only at hSw); go_simp) <;> with_reducible rfl
  try simp only [Act.put, List.setIfInBounds_toArray, List.set_cons_zero, List.set_cons_succ]
  refine wpAnyH_take (i := 56) (oi := ⟨_, _, _, _, _, _⟩) (v := ?_) rfl (by kernel_rfl) (by kernel_rfl) (by kernel_rfl) (fun _ _ _ h => h) (Or.inl ⟨by rfl, ?_⟩) hHeld ?_
  rotate_left
  · (intro w hSw; (try dsimp only at hSw); go_simp) <;> with_reducible rfl
  try simp only [Act.put, List.setIfInBounds_toArray, List.set_cons_zero, List.set_cons_succ]
  refine wpAnyH_done (by kernel_rfl) ?_ _
  have HZ := hid htW
  clear htW
  go_wp2_with fail
  go_ret
  exact ⟨rfl, HBW.out.trans (HZ.out.mono HBW.out.size)⟩
end C30
end Go.Proofs.Ytdamnbldimompaa
