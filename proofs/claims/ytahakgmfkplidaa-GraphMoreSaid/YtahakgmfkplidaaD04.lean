/- Walks of layer 4 (head): lists of headers: whether they may be, where one stands, its values, one more, alike; no condition. -/
import Derived.Test.YtahakgmfkplidaaC04
import Derived.Test.YtahakgmfkplidaaP04b
import Derived.Deep.QuietTactic
import Derived.BigQuiet
namespace Go.Proofs.Ytahakgmfkplidaa
open Go.RowKit Go.Peri
namespace C04
theorem elemH : Elem Try.prog 63 78 2 32 := Elem.mk' (z := .agg #[.string ByteArray.empty, .string ByteArray.empty]) Try.underlying63 (by kernel_rfl) rfl (by decide)
theorem elemS : Elem Try.prog 28 9 1 16 := Elem.mk' (z := .string ByteArray.empty) Try.underlying28 (by kernel_rfl) rfl (by decide)

set_option maxRecDepth 100000 in
theorem check_any {p : Nat → Prop} (v : Value) (l : List Hd) (W : World) (h : RowsOf p Hd.enc 2 W v l) (hp : ∀ b, p b → b < W.heap.size) (hw : ∀ x ∈ l, x.Wf) (hl : l.length ≤ 1000000000000) :
    Calls Try.prog 50 #[v] W fun e w' => e = .returned (.int .i64 (Hd.checkR l)) ∧ Below W.heap.size W w' := by
  obtain ⟨a, cap, rfl, hlc, hcm, _, hcell⟩ := h
  have HC := hid hcell
  have HP := hid hp
  have HWF := hid hw
  clear hcell hp hw
  by_cases h16 : 16 < l.length
  · have hr : Hid (Hd.checkR l = 8) := hid (if_pos h16)
    go_enter Try.func50, Try.ntmps50
    go_wp2_with fail
    go_ret
    exact ⟨by rw [hr.out]; rfl, Below.refl _ _⟩
  have hr : Hid (Hd.checkR l = Hd.checkL l) := hid (if_neg h16)
  go_enter Try.func50, Try.ntmps50
  go_wp2_with fail
  go_loopw [10] (fun i wr => ∃ k : Nat, k ≤ l.length ∧ i = .int .i64 k ∧ Below W.heap.size W wr ∧ ∀ j (_ : j < k) (hj : j < l.length), Hd.nameOk l[j].name = true ∧ Hd.valueOk l[j].value = true) (fun i _ => l.length - (intOf i).toNat)
  case atStart => exact ⟨0, Nat.zero_le _, rfl, Below.refl _ _, fun j hj => absurd hj (Nat.not_lt_zero _)⟩
  case round =>
    obtain ⟨k, hk, rfl, hb, hno⟩ := hrel
    have HB := hid hb
    have HN := hid hno
    clear hb hno
    by_cases hlt : k < l.length
    · obtain ⟨b, off, rfl, hpb, hc⟩ := HC.out.resolve_left (by intro e; rw [e] at hlt; simp at hlt)
      have hbl := HP.out b hpb
      obtain ⟨c0, c1⟩ := Hd.cells (fun j u hu => (HB.out.cell (p := ⟨b, off + k * 2 + j, none⟩) hbl).trans (hc k hlt j u hu))
      have HNext : Hid (Hd.nameOk l[k].name = true → Hd.valueOk l[k].value = true → ∀ j (_ : j < k + 1) (hj : j < l.length), Hd.nameOk l[j].name = true ∧ Hd.valueOk l[j].value = true) := by
        intro h1 h2 j hj hjl
        by_cases e : j = k
        · subst e; exact ⟨h1, h2⟩
        · exact HN.out j (by omega) hjl
      have HName : Hid (Hd.nameOk l[k].name = false → Hd.checkR l = 7) := fun h1 => by rw [hr.out]; exact Hd.checkL_name l k hlt HN.out h1
      have HVal : Hid (Hd.nameOk l[k].name = true → Hd.valueOk l[k].value = false → Hd.checkR l = 15) := fun h1 h2 => by rw [hr.out]; exact Hd.checkL_value l k hlt HN.out h1 h2
      have hwy := HWF.out l[k] (List.getElem_mem hlt)
      clear hc
      generalize l[k] = y at c0 c1 HNext HName HVal hwy
      have hws := HB.out.size
      have HNA := hid (fun w => name_any y.name w (by have := hwy.name; omega))
      have HVA := hid (fun w => value_any y.value w (by have := hwy.value; omega))
      obtain ⟨bn, hn⟩ : ∃ q, Hd.nameOk y.name = q := ⟨_, rfl⟩
      obtain ⟨bv, hv⟩ : ∃ q, Hd.valueOk y.value = q := ⟨_, rfl⟩
      rw [hn] at HNA HNext HName HVal
      rw [hv] at HVA HNext HVal
      clear hn hv hwy
      cases bn
      · go_wp2_with fail
        refine (HNA.out _).mono ?_
        rintro e w' ⟨rfl, rfl⟩
        go_wp2_with fail
        go_ret
        exact ⟨by rw [HName.out (by simp)]; rfl, HB.out.alloc hws _⟩
      · go_wp2_with fail
        refine (HNA.out _).mono ?_
        rintro e w' ⟨rfl, rfl⟩
        go_wp2_with fail
        refine (HVA.out _).mono ?_
        rintro e w' ⟨rfl, rfl⟩
        cases bv
        · go_wp2_with fail
          go_ret
          exact ⟨by rw [HVal.out (by simp) (by simp)]; rfl, HB.out.alloc hws _⟩
        · go_wp2_with fail
          go_roundw
          case rel => exact ⟨k + 1, by omega, by go_num, HB.out.alloc hws _, HNext.out (by simp) (by simp)⟩
          case measure => simp [intOf]; omega
    · obtain rfl : k = l.length := by omega
      have hd : Hid (Hd.checkR l = 0) := hid (by rw [hr.out]; exact Hd.checkL_ok l HN.out)
      go_wp2_with fail
      go_ret
      exact ⟨by rw [hd.out]; rfl, HB.out⟩

end C04
end Go.Proofs.Ytahakgmfkplidaa
