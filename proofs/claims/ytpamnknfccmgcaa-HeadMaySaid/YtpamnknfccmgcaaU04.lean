/- Walks of layer 4 (head): what must come of fixed calls; no condition. -/
import Derived.Test.YtpamnknfccmgcaaT04
import Derived.Deep.DrawnRows
namespace Go.Proofs.Ytpamnknfccmgcaa
open Go.RowKit Go.Peri
namespace C04
attribute [local go_sem ↓] Go.wp_at_zero Go.wp_at_succ
def kA : ByteArray := ⟨#[97]⟩
def kB : ByteArray := ⟨#[98]⟩
def kC : ByteArray := ⟨#[99]⟩
def k1 : ByteArray := ⟨#[49]⟩
def k2 : ByteArray := ⟨#[50]⟩
def k3 : ByteArray := ⟨#[51]⟩
def k4 : ByteArray := ⟨#[52]⟩
def kL : List Hd := [⟨kA, k1⟩, ⟨kB, k2⟩, ⟨kA, k3⟩]
set_option maxRecDepth 100000 in
set_option maxHeartbeats 16000000 in
theorem known_any (W : World) : Calls Try.prog 28 #[] W fun e w' => e = .returned (.bool true) ∧ Below W.heap.size W w' := by
  have F1 : Hid (Hd.getR kL kA = (k1, true)) := hid (by rfl)
  have F2 : Hid (Hd.checkR kL = 0) := hid (by rfl)
  have F3 : Hid (Hd.allR kL kA = [k1, k3]) := hid (by rfl)
  have F4 : Hid (Hd.setR kL kA k4 = [⟨kA, k4⟩, ⟨kB, k2⟩]) := hid (by rfl)
  have F5 : Hid (Hd.outR kL [kA, kC] = [⟨kB, k2⟩]) := hid (by rfl)
  have F6 : Hid (kL ++ [⟨kC, ByteArray.empty⟩] = [⟨kA, k1⟩, ⟨kB, k2⟩, ⟨kA, k3⟩, ⟨kC, ByteArray.empty⟩]) := hid (by rfl)
  have N1 : Hid (Hd.nameOk ⟨#[120, 45, 49]⟩ = true) := hid (by rfl)
  have N2 : Hid (Hd.nameOk ⟨#[88]⟩ = false) := hid (by rfl)
  have V1 : Hid (Hd.valueOk ⟨#[97, 32, 98]⟩ = true) := hid (by rfl)
  have V2 : Hid (Hd.valueOk ⟨#[32, 97]⟩ = false) := hid (by rfl)
  have w0b : Blk (W.alloc (.cells #[.string ⟨#[97]⟩, .string ⟨#[49]⟩, .string ⟨#[98]⟩, .string ⟨#[50]⟩, .string ⟨#[97]⟩, .string ⟨#[51]⟩] 131)) W.heap.size #[.string ⟨#[97]⟩, .string ⟨#[49]⟩, .string ⟨#[98]⟩, .string ⟨#[50]⟩, .string ⟨#[97]⟩, .string ⟨#[51]⟩] 131 := Blk.new _ _ _
  have HW0 : Hid (RowsOf (· = W.heap.size) Hd.enc 2 (W.alloc (.cells #[.string ⟨#[97]⟩, .string ⟨#[49]⟩, .string ⟨#[98]⟩, .string ⟨#[50]⟩, .string ⟨#[97]⟩, .string ⟨#[51]⟩] 131)) (.slice (some ⟨W.heap.size, 0, none⟩) 3 3) kL) := hid (rows_of_blk (l := kL) Hd.enc_length w0b rfl (by decide))
  have HGet : Hid (Calls Try.prog 35 #[.slice (some ⟨W.heap.size, 0, none⟩) 3 3, .string ⟨#[97]⟩] (W.alloc (.cells #[.string ⟨#[97]⟩, .string ⟨#[49]⟩, .string ⟨#[98]⟩, .string ⟨#[50]⟩, .string ⟨#[97]⟩, .string ⟨#[51]⟩] 131)) fun e w' => e = .returned (.tuple #[.string ⟨#[49]⟩, .bool true]) ∧ Below (W.alloc (.cells #[.string ⟨#[97]⟩, .string ⟨#[49]⟩, .string ⟨#[98]⟩, .string ⟨#[50]⟩, .string ⟨#[97]⟩, .string ⟨#[51]⟩] 131)).heap.size (W.alloc (.cells #[.string ⟨#[97]⟩, .string ⟨#[49]⟩, .string ⟨#[98]⟩, .string ⟨#[50]⟩, .string ⟨#[97]⟩, .string ⟨#[51]⟩] 131)) w') :=
    get_any _ kL kA (k1, true) _ HW0.out (fun b hb => by rw [hb]; simp) (by decide) F1.out
  clear w0b
  go_enter Try.func28, Try.ntmps28
  go_wp2_with fail
  refine HGet.out.mono ?_
  rintro e w0 ⟨rfl, hb0⟩
  have hg0 : W.heap.size < w0.heap.size := by have := hb0.size; simp at this; omega
  have HB0 : Hid (Below W.heap.size W w0) := Below.trans (by go_grown) (hb0.mono (by simp))
  have HL0 : Hid (RowsOf (· = W.heap.size) Hd.enc 2 w0 (.slice (some ⟨W.heap.size, 0, none⟩) 3 3) kL) := hid (HW0.out.below hb0 (fun b hb => by rw [hb]; simp))
  have hX : ∀ w', Below w0.heap.size w0 w' → RowsOf (· = W.heap.size) Hd.enc 2 w' (.slice (some ⟨W.heap.size, 0, none⟩) 3 3) kL ∧ ∀ b, (b = W.heap.size) → b < w'.heap.size := fun w' hw => ⟨HL0.out.below hw (fun b hb => by rw [hb]; exact hg0), fun b hb => by rw [hb]; exact Nat.lt_of_lt_of_le hg0 hw.size⟩
  have hwf : ∀ x ∈ kL, x.Wf := by
    intro x hx
    simp only [kL, List.mem_cons, List.not_mem_nil, or_false] at hx
    rcases hx with rfl | rfl | rfl <;> exact ⟨by decide, by decide⟩
  have HNM : Hid (∀ w', Calls Try.prog 29 #[.string ⟨#[120, 45, 49]⟩] w' fun e w'' => e = .returned (.bool true) ∧ w' = w'') := hid (fun w' => by have := name_any ⟨#[120, 45, 49]⟩ w' (by decide); rwa [N1.out] at this)
  have HNX : Hid (∀ w', Calls Try.prog 29 #[.string ⟨#[88]⟩] w' fun e w'' => e = .returned (.bool false) ∧ w' = w'') := hid (fun w' => by have := name_any ⟨#[88]⟩ w' (by decide); rwa [N2.out] at this)
  have HVA : Hid (∀ w', Calls Try.prog 31 #[.string ⟨#[97, 32, 98]⟩] w' fun e w'' => e = .returned (.bool true) ∧ w' = w'') := hid (fun w' => by have := value_any ⟨#[97, 32, 98]⟩ w' (by decide); rwa [V1.out] at this)
  have HVB : Hid (∀ w', Calls Try.prog 31 #[.string ⟨#[32, 97]⟩] w' fun e w'' => e = .returned (.bool false) ∧ w' = w'') := hid (fun w' => by have := value_any ⟨#[32, 97]⟩ w' (by decide); rwa [V2.out] at this)
  have HCH : Hid (∀ w', Below w0.heap.size w0 w' → Calls Try.prog 33 #[.slice (some ⟨W.heap.size, 0, none⟩) 3 3] w' fun e w'' => e = .returned (.int .i64 0) ∧ Below w'.heap.size w' w'') := hid (fun w' hw => by
    have := check_any _ kL w' (hX w' hw).1 (hX w' hw).2 hwf (by decide); rwa [F2.out] at this)
  have HAL : Hid (∀ w', Below w0.heap.size w0 w' → Calls Try.prog 38 #[.slice (some ⟨W.heap.size, 0, none⟩) 3 3, .string ⟨#[97]⟩] w' (NewR sEnc 1 2 w' [k1, k3])) := hid (fun w' hw =>
    (all_any _ kL kA w' (hX w' hw).1 (hX w' hw).2 (by decide)).mono (fun _ _ h => h.newR sEnc_length F3.out rfl))
  have HSE : Hid (∀ w', Below w0.heap.size w0 w' → Calls Try.prog 43 #[.slice (some ⟨W.heap.size, 0, none⟩) 3 3, .string ⟨#[97]⟩, .string ⟨#[52]⟩] w' (NewR Hd.enc 2 2 w' [⟨kA, k4⟩, ⟨kB, k2⟩])) := hid (fun w' hw =>
    (set_any _ kL _ kA k4 w' (hX w' hw).1 (hX w' hw).2 (by decide) rfl).mono (fun _ _ h => h.newR Hd.enc_length F4.out rfl))
  have HWI : Hid (∀ w', Below w0.heap.size w0 w' → Calls Try.prog 45 #[.slice (some ⟨W.heap.size, 0, none⟩) 3 3, .slice (some ⟨w'.heap.size, 0, none⟩) 2 2] (w'.alloc (.cells #[.string ⟨#[97]⟩, .string ⟨#[99]⟩] 9)) (NewR Hd.enc 2 1 (w'.alloc (.cells #[.string ⟨#[97]⟩, .string ⟨#[99]⟩] 9)) [⟨kB, k2⟩])) := hid (fun w' hw =>
    (without_any _ _ kL _ [kA, kC] _ (hX _ (hw.alloc hw.size _)).1 (hX _ (hw.alloc hw.size _)).2 (by decide) (rows_of_blk (l := [kA, kC]) sEnc_length (Blk.new w' _ 9) rfl (by decide)) (fun b hb => by rw [hb]; simp) (by decide) rfl).mono (fun _ _ h => h.newR Hd.enc_length F5.out rfl))
  have HAD : Hid (∀ w', Below w0.heap.size w0 w' → Calls Try.prog 41 #[.slice (some ⟨W.heap.size, 0, none⟩) 3 3, .string ⟨#[99]⟩, .string ⟨#[]⟩] w' (NewR Hd.enc 2 4 w' [⟨kA, k1⟩, ⟨kB, k2⟩, ⟨kA, k3⟩, ⟨kC, ByteArray.empty⟩])) := hid (fun w' hw =>
    (add_any _ kL _ kC ByteArray.empty w' (hX w' hw).1 (hX w' hw).2 (by decide) rfl).mono (fun _ _ h => h.newR Hd.enc_length F6.out rfl))
  have HLB : Hid (∀ w', Below w0.heap.size w0 w' → Reads Hd.enc 2 w' (.slice (some ⟨W.heap.size, 2, none⟩) 1 2) [⟨kB, k2⟩]) := hid (fun w' hw => by
    have h1 := ((hX w' hw).1.dropN 1 (by decide)).takeN 1 (by decide)
    exact ⟨_, (hX w' hw).2, h1⟩)
  have HLT : Hid (∀ w', Reads sEnc 1 (World.alloc w' (.cells #[.string ⟨#[49]⟩, .string ⟨#[51]⟩] 9)) (.slice (some ⟨w'.heap.size, 0, none⟩) 2 2) [k1, k3]) := hid (fun w' => Reads.blk sEnc_length (l := [k1, k3]) (Blk.new w' _ 9) rfl (by decide))
  have HLS : Hid (∀ w', Reads Hd.enc 2 (World.alloc w' (.cells #[.string ⟨#[97]⟩, .string ⟨#[52]⟩, .string ⟨#[98]⟩, .string ⟨#[50]⟩] 131)) (.slice (some ⟨w'.heap.size, 0, none⟩) 2 2) [⟨kA, k4⟩, ⟨kB, k2⟩]) := hid (fun w' => Reads.blk Hd.enc_length (l := [⟨kA, k4⟩, ⟨kB, k2⟩]) (Blk.new w' _ 131) rfl (by decide))
  have HTX : Hid (∀ u v w', Reads sEnc 1 w' u [k1, k3] → Reads sEnc 1 w' v [k1, k3] → Calls Try.prog 37 #[u, v] w' fun e w'' => e = .returned (.bool true) ∧ Below w'.heap.size w' w'') := hid (fun u v w' h1 h2 => texts_list u v _ w' h1 h2 (by decide))
  have HSM1 : Hid (∀ u v w', Reads Hd.enc 2 w' u [⟨kA, k4⟩, ⟨kB, k2⟩] → Reads Hd.enc 2 w' v [⟨kA, k4⟩, ⟨kB, k2⟩] → Calls Try.prog 40 #[u, v] w' fun e w'' => e = .returned (.bool true) ∧ Below w'.heap.size w' w'') := hid (fun u v w' h1 h2 => same_list u v _ w' h1 h2 (by decide))
  have HSM2 : Hid (∀ u v w', Reads Hd.enc 2 w' u [⟨kB, k2⟩] → Reads Hd.enc 2 w' v [⟨kB, k2⟩] → Calls Try.prog 40 #[u, v] w' fun e w'' => e = .returned (.bool true) ∧ Below w'.heap.size w' w'') := hid (fun u v w' h1 h2 => same_list u v _ w' h1 h2 (by decide))
  clear hX hwf hb0 HGet HW0
  go_wp2_with fail
  go_region_held3 (fun _ => True) (trivial)
    ((first
      | (go_at_call 29; (first | (with_reducible refine (HNM.out _).mono ?_) | (with_reducible refine (HNX.out _).mono ?_)); rintro e w' ⟨rfl, rfl⟩)
      | (go_at_call 31; (first | (with_reducible refine (HVA.out _).mono ?_) | (with_reducible refine (HVB.out _).mono ?_)); rintro e w' ⟨rfl, rfl⟩)
      | (go_at_call 33; (with_reducible refine (HCH.out _ (Below.refl _ _).drew).mono ?_); rintro e w1 ⟨rfl, q1⟩; have b1 : Below w0.heap.size w0 w1 := below_drew q1)
      | (go_at_call 38; (with_reducible refine (HAL.out _ b1).mono ?_); rintro e w2 ⟨a2, cap2, rfl, q2, r2⟩; have b2 : Below w0.heap.size w0 w2 := b1.trans (q2.mono b1.size))
      | (go_at_call 38; (with_reducible refine (HAL.out _ (b1.alloc b1.size _)).mono ?_); rintro e w2 ⟨a2, cap2, rfl, q2, r2⟩; have b2 : Below w0.heap.size w0 w2 := (b1.alloc b1.size _).trans (q2.mono (b1.alloc b1.size _).size); have l2 := (HLT.out w1).later q2)
      | (go_at_call 37; (with_reducible refine (HTX.out _ _ _ (r2.out.later ((Below.refl _ _).alloc (Nat.le_refl _) _)) (HLT.out w2)).mono ?_); rintro e w3 ⟨rfl, q3⟩; have b3 : Below w0.heap.size w0 w3 := (b2.alloc b2.size _).trans (q3.mono (b2.alloc b2.size _).size))
      | (go_at_call 37; (with_reducible refine (HTX.out _ _ _ r2.out l2).mono ?_); rintro e w3 ⟨rfl, q3⟩; have b3 : Below w0.heap.size w0 w3 := b2.trans (q3.mono b2.size))
      | (go_at_call 43; (with_reducible refine (HSE.out _ b3).mono ?_); rintro e w4 ⟨a4, cap4, rfl, q4, r4⟩; have b4 : Below w0.heap.size w0 w4 := b3.trans (q4.mono b3.size))
      | (go_at_call 43; (with_reducible refine (HSE.out _ (b3.alloc b3.size _)).mono ?_); rintro e w4 ⟨a4, cap4, rfl, q4, r4⟩; have b4 : Below w0.heap.size w0 w4 := (b3.alloc b3.size _).trans (q4.mono (b3.alloc b3.size _).size); have l4 := (HLS.out w3).later q4)
      | (go_at_call 40; (with_reducible refine (HSM2.out _ _ _ r6.out (HLB.out _ b6)).mono ?_); rintro e w7 ⟨rfl, q7⟩; have b7 : Below w0.heap.size w0 w7 := b6.trans (q7.mono b6.size))
      | (go_at_call 40; (with_reducible refine (HSM1.out _ _ _ (r4.out.later ((Below.refl _ _).alloc (Nat.le_refl _) _)) (HLS.out w4)).mono ?_); rintro e w5 ⟨rfl, q5⟩; have b5 : Below w0.heap.size w0 w5 := (b4.alloc b4.size _).trans (q5.mono (b4.alloc b4.size _).size))
      | (go_at_call 40; (with_reducible refine (HSM1.out _ _ _ r4.out l4).mono ?_); rintro e w5 ⟨rfl, q5⟩; have b5 : Below w0.heap.size w0 w5 := b4.trans (q5.mono b4.size))
      | (go_at_call 45; (with_reducible refine (HWI.out _ b5).mono ?_); rintro e w6 ⟨a6, cap6, rfl, q6, r6⟩; have b6 : Below w0.heap.size w0 w6 := (b5.alloc b5.size _).trans (q6.mono (b5.alloc b5.size _).size))
      | (go_at_call 41; (with_reducible refine (HAD.out _ b7).mono ?_); rintro e w8 ⟨a8, cap8, rfl, q8, r8⟩; have b8 : Below w0.heap.size w0 w8 := b7.trans (q8.mono b7.size))))
  all_goals
    have HB8 : Hid (Below W.heap.size W w8) := HB0.out.trans (b8.mono HB0.out.size)
    clear b1 b2 b3 b4 b5 b6 b7 b8
    go_wp2_with fail
    go_ret
    exact ⟨rfl, HB8.out⟩
end C04
end Go.Proofs.Ytpamnknfccmgcaa
