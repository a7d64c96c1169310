/- Walks of layer 3 (crc): a machine's table is filled; no condition. -/
import Derived.Test.YthmopkaecbebpaaG03
namespace Go.Proofs.Ythmopkaecbebpaa
open Go.RowKit Go.Peri
namespace C03
set_option maxRecDepth 100000 in
set_option maxHeartbeats 1000000 in
theorem fill_any (g : Nat) (dn st bs : Int) (tb : Nat → Nat) (w : World) (h : Mach w g dn st 0 bs tb) :
    Calls Try.prog 101 #[.pointer (some ⟨g, 0, none⟩)] w fun e w' => e = .returned (.tuple #[]) ∧ Only [g] w w' ∧ Hid (Mach w' g dn st 1 bs Crc.step) := by
  have HH := hid h
  clear h
  go_enter Try.func101, Try.ntmps101
  go_wp2_with fail
  go_loopw [3] (fun i wr => ∃ k : Nat, ∃ tk : Nat → Nat, k ≤ 256 ∧ i = .int .i64 k ∧ Only [g] w wr ∧ Mach wr g dn st 0 bs tk ∧ ∀ j, j < k → tk j = Crc.step j) (fun i _ => 256 - (intOf i).toNat)
  case atStart => exact ⟨0, tb, by omega, rfl, Only.refl _ _, HH.out, fun j hj => by omega⟩
  case round =>
    obtain ⟨k, tk, hk, rfl, ho, hm, ht⟩ := hrel
    have HO := hid ho
    have HM := hid hm
    have HT := hid ht
    clear ho ht
    by_cases hk2 : k < 256
    · have hc := hm.tab k hk2
      have hf := hm.free (3 + k)
      have hs : Hid (∀ w, Calls Try.prog 98 #[.int .u32 (IntKind.u32.wrap (k : Int))] w fun e w' => e = .returned (.int .u32 (Crc.step k)) ∧ w = w') := hid (fun w => by rw [IntKind.wrap_u32', show (k : Int) % 4294967296 = k by omega]; exact step_any k w (by omega))
      have HR := hid (hm.drew.row k hk2 (Crc.step k))
      clear hm
      obtain ⟨x, hx⟩ : ∃ x, Crc.step k = x := ⟨_, rfl⟩
      rw [hx] at hs HR
      go_wp2_with fail
      go_region_held3 (fun w' => ∃ y : Value, w'.cell? ⟨g, 3 + k, none⟩ = some y ∧ w'.frozen? ⟨g, 3 + k, none⟩ = false)
        (first | exact ⟨_, hc, hf⟩ | exact ⟨_, World.cell?_setCell_same _ _ _ hc, (World.frozen?_setCell _ _ _ _).trans hf⟩)
        ((go_at_call 98; refine (hs.out _).mono ?_; rintro e w' ⟨rfl, rfl⟩))
      go_wp2_with fail
      go_roundw
      case rel =>
        refine ⟨k + 1, fun i => if i = k then x else tk i, by omega, by go_num, HO.out.drew.setCell (by simp) _, HR.out, fun j hj => ?_⟩
        by_cases hjk : j = k
        · subst hjk; simp [hx]
        · simp only [hjk, if_false]; exact HT.out j (by omega)
      case measure => simp [intOf]; omega
    · obtain rfl : k = 256 := by omega
      have ha := add64 ⟨g, 259, none⟩ wr hm.made (hm.free _)
      clear hm
      go_wp2_with fail
      refine ha.mono ?_
      rintro e w' ⟨rfl, rfl⟩
      go_wp2_with fail
      go_end0
      exact ⟨rfl, HO.out.setCell (by simp) _, hid ((HM.out.mades 1).congr HT.out)⟩
end C03
end Go.Proofs.Ythmopkaecbebpaa
