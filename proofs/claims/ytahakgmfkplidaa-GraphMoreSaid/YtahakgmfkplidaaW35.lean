/- Walks of layer 35 (graph): what must come of fixed calls; no condition. -/
import Derived.Test.YtahakgmfkplidaaV35
namespace Go.Proofs.Ytahakgmfkplidaa
open Go.RowKit Go.Peri
namespace C35
def kOp : Opr := ⟨5, ⟨#[]⟩, ⟨#[]⟩, 0⟩
def kH (o : Option Addr) : Hn := ⟨⟨#[47, 120]⟩, o, 1, [kOp]⟩
def kL (o h : Option Addr) : List Sv := [⟨⟨#[97]⟩, none, 0, []⟩, ⟨⟨#[98]⟩, h, 1, [kH o]⟩]
def kG : List Sv := [⟨⟨#[103, 97, 116, 101]⟩, none, 0, []⟩]
theorem k_check (o h : Option Addr) : gE (kL o h) = 0 := by kernel_rfl
theorem k_gate : gE kG = 7 := by kernel_rfl
theorem k_b (o h : Option Addr) : nodeR (kL o h) ⟨#[98]⟩ = 2 := by kernel_rfl
theorem k_c (o h : Option Addr) : nodeR (kL o h) ⟨#[99]⟩ = -1 := by kernel_rfl
theorem k_0 (o h : Option Addr) : nameR (kL o h) 0 = ⟨#[103, 97, 116, 101]⟩ := by kernel_rfl
theorem k_1 (o h : Option Addr) : nameR (kL o h) 1 = ⟨#[97]⟩ := by kernel_rfl
theorem k_3 (o h : Option Addr) : nameR (kL o h) 3 = ⟨#[]⟩ := by kernel_rfl
theorem k_x (o h : Option Addr) : handR (kL o h) 2 ⟨#[47, 120]⟩ = ([kOp], true) := by kernel_rfl
theorem k_y (o h : Option Addr) : handR (kL o h) 2 ⟨#[47, 121]⟩ = ([], false) := by kernel_rfl
theorem k_rows {w : World} {g0 g1 g2 : Nat} (h0 : Blk w g0 #[.int .i64 5, .string ⟨#[]⟩, .string ⟨#[]⟩, .int .i64 0] 45)
    (h1 : Blk w g1 #[.string ⟨#[47, 120]⟩, .slice (some ⟨g0, 0, none⟩) 1 1] 42)
    (h2 : Blk w g2 #[.string ⟨#[97]⟩, .slice none 0 0, .string ⟨#[98]⟩, .slice (some ⟨g1, 0, none⟩) 1 1] 39) :
    RowsOf (· < w.heap.size) Sv.enc 2 w (.slice (some ⟨g2, 0, none⟩) 2 2) (kL (some ⟨g0, 0, none⟩) (some ⟨g1, 0, none⟩)) ∧ ∀ x ∈ kL (some ⟨g0, 0, none⟩) (some ⟨g1, 0, none⟩), SOk (· < w.heap.size) w x := by
  have r0 : RowsOf (· < w.heap.size) Opr.enc 4 w (.slice (some ⟨g0, 0, none⟩) 1 1) [kOp] := (rows_of_blk (enc := Opr.enc) (l := [kOp]) Opr.enc_length h0 rfl (by unfold maxLen; decide)).imp (fun b hb => by rw [hb]; exact h0.lt)
  have r1 : RowsOf (· < w.heap.size) Hn.enc 2 w (.slice (some ⟨g1, 0, none⟩) 1 1) [kH (some ⟨g0, 0, none⟩)] := (rows_of_blk (enc := Hn.enc) (l := [kH (some ⟨g0, 0, none⟩)]) Hn.enc_length h1 rfl (by show 1 ≤ _; unfold maxLen; decide)).imp (fun b hb => by rw [hb]; exact h1.lt)
  refine ⟨(rows_of_blk (enc := Sv.enc) (l := kL (some ⟨g0, 0, none⟩) (some ⟨g1, 0, none⟩)) Sv.enc_length h2 rfl (by show 2 ≤ _; unfold maxLen; decide)).imp (fun b hb => by rw [hb]; exact h2.lt), ?_⟩
  intro x hx
  simp only [kL, List.mem_cons, List.not_mem_nil, or_false] at hx
  rcases hx with rfl | rfl
  · exact ⟨by decide, RowsOf.nil _ _ _ _, by decide, by simp⟩
  · refine ⟨by show 1 ≤ _; decide, r1, by show 1 ≤ _; decide, fun h hh => ?_⟩
    simp only [List.mem_cons, List.not_mem_nil, or_false] at hh
    subst hh
    refine ⟨by show 2 ≤ _; decide, r0, by show 1 ≤ _; decide, fun o ho => ?_⟩
    simp only [kH, List.mem_cons, List.not_mem_nil, or_false] at ho
    subst ho
    exact ⟨by decide, by decide⟩
theorem kG_rows {w : World} {g : Nat} (h : Blk w g #[.string ⟨#[103, 97, 116, 101]⟩, .slice none 0 0] 39) :
    RowsOf (· < w.heap.size) Sv.enc 2 w (.slice (some ⟨g, 0, none⟩) 1 1) kG ∧ ∀ x ∈ kG, SOk (· < w.heap.size) w x := by
  refine ⟨(rows_of_blk (enc := Sv.enc) (l := kG) Sv.enc_length h rfl (by unfold maxLen; decide)).imp (fun b hb => by rw [hb]; exact h.lt), ?_⟩
  intro x hx
  simp only [kG, List.mem_cons, List.not_mem_nil, or_false] at hx
  subst hx
  exact ⟨by decide, RowsOf.nil _ _ _ _, by decide, by simp⟩
set_option maxRecDepth 100000 in
set_option maxHeartbeats 8000000 in
theorem known_any (W : World) : Calls Try.prog 7 #[] W fun e w' => e = .returned (.bool true) ∧ Below W.heap.size W w' := by
  go_enter Try.func7, Try.ntmps7
  go_upto_region 3 with fail
  refine wp_genG ?_
  intro w1 hw1
  have hb1 : Below W.heap.size W w1 := by rw [hw1]; go_grown
  have k0 : Blk w1 W.heap.size #[.int .i64 5, .string ⟨#[]⟩, .string ⟨#[]⟩, .int .i64 0] 45 := by rw [hw1]; exact ((Blk.new _ _ _).alloc _).alloc _
  have k1 : Blk w1 (W.heap.size + 1) #[.string ⟨#[47, 120]⟩, .slice (some ⟨W.heap.size, 0, none⟩) 1 1] 42 := by rw [hw1]; exact (Blk.new' _ _ _ (by simp)).alloc _
  have k2 : Blk w1 (W.heap.size + 2) #[.string ⟨#[97]⟩, .slice none 0 0, .string ⟨#[98]⟩, .slice (some ⟨W.heap.size + 1, 0, none⟩) 1 1] 39 := by rw [hw1]; exact Blk.new' _ _ _ (by simp)
  clear hw1
  have HB1 := hid hb1
  have HRW : Hid (∀ w, Below w1.heap.size w1 w → _ ∧ _) := hid (fun w hb => k_rows (k0.later hb) (k1.later hb) (k2.later hb))
  have HOP : Hid (∀ w, Below w1.heap.size w1 w → Reads Opr.enc 4 w (.slice (some ⟨W.heap.size, 0, none⟩) 1 1) [kOp]) := hid (fun w hb => Reads.blk (enc := Opr.enc) (l := [kOp]) Opr.enc_length (k0.later hb) rfl (by unfold maxLen; decide))
  clear hb1 k0 k1 k2
  have kops : ∀ (o h : Option Addr), ∀ x ∈ kL o h, ∀ y ∈ x.hs, y.ops.length ≤ 1000000 := by
    intro o h x hx y hy
    simp only [kL, List.mem_cons, List.not_mem_nil, or_false] at hx
    rcases hx with rfl | rfl
    · simp at hy
    · simp only [List.mem_cons, List.not_mem_nil, or_false] at hy
      subst hy
      show 1 ≤ _
      decide
  have XX := hid (fun w hb => handler2_any _ _ 2 w ⟨#[47, 120]⟩ _ (HRW.out w hb).1 (fun _ h => h) (by show 2 ≤ _; decide) (HRW.out w hb).2 (kops _ _) (k_x _ _))
  have XY := hid (fun w hb => handler2_any _ _ 2 w ⟨#[47, 121]⟩ _ (HRW.out w hb).1 (fun _ h => h) (by show 2 ≤ _; decide) (HRW.out w hb).2 (kops _ _) (k_y _ _))
  have XC := hid (fun w hb => gcheck_any _ _ _ w (HRW.out w hb).1 (fun _ h => h) (by show 2 ≤ _; decide) (HRW.out w hb).2 (k_check _ _))
  have XN := hid (fun w hb => names_any _ _ w (HRW.out w hb).1 (fun _ h => h) (by show 2 ≤ _; decide))
  have XB := hid (fun w hb => node_any _ _ ⟨#[98]⟩ _ w (HRW.out w hb).1 (fun _ h => h) (by show 2 ≤ _; decide) (k_b _ _))
  have XD := hid (fun w hb => node_any _ _ ⟨#[99]⟩ _ w (HRW.out w hb).1 (fun _ h => h) (by show 2 ≤ _; decide) (k_c _ _))
  have X0 := hid (fun w hb => name_any _ _ 0 w _ (HRW.out w hb).1 (fun _ h => h) (by show 2 ≤ _; decide) (k_0 _ _))
  have X1 := hid (fun w hb => name_any _ _ 1 w _ (HRW.out w hb).1 (fun _ h => h) (by show 2 ≤ _; decide) (k_1 _ _))
  have X3 := hid (fun w hb => name_any _ _ 3 w _ (HRW.out w hb).1 (fun _ h => h) (by show 2 ≤ _; decide) (k_3 _ _))
  clear HRW kops
  have HG : Hid (W.heap.size = W.heap.size) := hid rfl
  go_wp2_with fail
  refine (XX.out _ (Below.refl _ _)).mono ?_
  rintro e w2 ⟨a2, n2, c2, rfl, hb2, HR2⟩
  have HB2 := hid hb2
  clear hb2 XX
  go_wp2_with fail
  refine (XY.out _ HB2.out).mono ?_
  rintro e w3 ⟨a3, n3, c3, rfl, hb3, -⟩
  have HB3 := hid (HB2.out.trans (hb3.mono HB2.out.size))
  have HR3 := hid (HR2.out.later hb3)
  clear hb3 XY HR2
  go_wp2_with fail
  refine (XC.out _ HB3.out).mono ?_
  rintro e w4 ⟨rfl, hb4⟩
  have HB4 := hid (HB3.out.trans (hb4.mono HB3.out.size))
  have HR4 := hid (HR3.out.later hb4)
  clear hb4 XC HR3
  go_wp2_with fail
  refine (XN.out _ HB4.out).mono ?_
  rintro e w5 ⟨a5, c5, rfl, hb5, HN5⟩
  have HB5 := hid (HB4.out.trans (hb5.mono HB4.out.size))
  have HR5 := hid (HR4.out.later hb5)
  have ha : Below w5.heap.size w5 (w5.alloc (.cells #[.string ⟨#[97]⟩, .string ⟨#[98]⟩] 9)) := (Below.refl _ _).alloc (Nat.le_refl _) _
  have XT := hid (C04.texts_list _ (.slice (some ⟨w5.heap.size, 0, none⟩) 2 2) [⟨#[97]⟩, ⟨#[98]⟩] _ (HN5.out.later ha) (Reads.blk (enc := sEnc) (l := [⟨#[97]⟩, ⟨#[98]⟩]) (fun _ => rfl) (Blk.new _ _ _) rfl (by unfold maxLen; decide)) (by decide))
  have HA := hid ha
  clear hb5 XN HR4 HN5 ha
  go_wp2_with fail
  refine XT.out.mono ?_
  rintro e w6 ⟨rfl, hb6⟩
  have HB6 := hid (HB5.out.trans ((HA.out.trans (hb6.mono HA.out.size)).mono HB5.out.size))
  have HR6 := hid ((HR5.out.later HA.out).later hb6)
  clear hb6 XT HR5 HA
  go_wp2_with fail
  refine (XB.out _ HB6.out).mono ?_
  rintro e w7 ⟨rfl, hb7⟩
  have HB7 := hid (HB6.out.trans (hb7.mono HB6.out.size))
  have HR7 := hid (HR6.out.later hb7)
  clear hb7 XB HR6
  go_wp2_with fail
  refine (XD.out _ HB7.out).mono ?_
  rintro e w8 ⟨rfl, hb8⟩
  have HB8 := hid (HB7.out.trans (hb8.mono HB7.out.size))
  have HR8 := hid (HR7.out.later hb8)
  clear hb8 XD HR7
  go_wp2_with fail
  refine (X0.out _ HB8.out).mono ?_
  rintro e w9 ⟨rfl, rfl⟩
  go_wp2_with fail
  refine (X1.out _ HB8.out).mono ?_
  rintro e w9 ⟨rfl, rfl⟩
  go_wp2_with fail
  refine (X3.out _ HB8.out).mono ?_
  rintro e w9 ⟨rfl, rfl⟩
  clear X0 X1 X3
  have XS : Hid (Calls Try.prog 19 #[.slice a2 n2 c2, .slice (some ⟨W.heap.size, 0, none⟩) 1 1] w8 fun e w' => e = .returned (.bool true) ∧ Below w8.heap.size w8 w') := hid (by
    obtain ⟨p, hp, hr⟩ := HR8.out
    obtain ⟨q, hq, hr2⟩ := HOP.out w8 HB8.out
    exact osame_any _ _ _ _ true w8 hr hp hr2 hq (by decide) (by decide) (decide_eq_true rfl))
  go_wp2_with fail
  refine XS.out.mono ?_
  rintro e w9 ⟨rfl, hb9⟩
  have HB9 := hid (HB8.out.trans (hb9.mono HB8.out.size))
  clear hb9 XS HR8 HOP
  have hk9 : Blk (w9.alloc (.cells #[.string ⟨#[103, 97, 116, 101]⟩, .slice none 0 0] 39)) w9.heap.size #[.string ⟨#[103, 97, 116, 101]⟩, .slice none 0 0] 39 := Blk.new _ _ _
  have XG := hid (gcheck_any _ _ _ _ (kG_rows hk9).1 (fun _ h => h) (by decide) (kG_rows hk9).2 k_gate)
  clear hk9
  go_wp2_with fail
  refine XG.out.mono ?_
  rintro e w10 ⟨rfl, hb10⟩
  have HBA := hid (HB9.out.trans ((((Below.refl w9.heap.size w9).alloc (Nat.le_refl _) _).trans (hb10.mono (by simp))).mono HB9.out.size))
  clear hb10 XG
  go_wp2_with fail
  go_ret
  exact ⟨rfl, HB1.out.trans (HBA.out.mono HB1.out.size)⟩
end C35
end Go.Proofs.Ytahakgmfkplidaa
