/- Walks of layer 6 (ids): whether all that is drawn is unlike, the document's answer; no condition. -/
import Derived.Test.YtnmfdkkdnaeikaaG06
namespace Go.Proofs.Ytnmfdkkdnaeikaa
open Go.RowKit Go.Peri
namespace C06
open C01

def goodAt (zs : List Nat) (i : Nat) : Prop := atR zs i ≠ 0 ∧ ∀ k : Nat, k < i → atR zs k ≠ atR zs i
instance (zs : List Nat) (i : Nat) : Decidable (goodAt zs i) := inferInstanceAs (Decidable (atR zs i ≠ 0 ∧ ∀ k : Nat, k < i → atR zs k ≠ atR zs i))
def distR (zs : List Nat) (n : Int) : Bool := decide (∀ i : Nat, i < (if n ≤ 4096 then n else 4096).toNat → goodAt zs i)
theorem rat_val {B : Nat} (v : Value) (zs : List Nat) (i r : Nat) (w : World) (h : IsVals B w v (natVals zs)) (hi : i < 9223372036854775808) (hr : atR zs i = r) : Calls Try.prog 63 #[v, .int .i64 i] w fun e w' => e = .returned (.int .u64 r) ∧ w = w' := by
  have := rat_any v zs i w h (by omega); rw [hr] at this; exact this

set_option maxRecDepth 100000 in
set_option maxHeartbeats 4000000 in
theorem rdist_le {B : Nat} (v : Value) (zs : List Nat) (n : Int) (W : World) (h : IsVals B W v (natVals zs)) (hn : -9223372036854775808 ≤ n) (h4 : n ≤ 4096) :
    Calls Try.prog 65 #[v, .int .i64 n] W fun e w' => e = .returned (.bool (distR zs n)) ∧ W = w' := by
  have HV := hid h
  clear h
  have hd : distR zs n = decide (∀ i : Nat, i < n.toNat → goodAt zs i) := by unfold distR; rw [if_pos h4]
  have HD := hid hd
  clear hd
  go_enter Try.func65, Try.ntmps65
  go_wp2_with fail
  go_loop [5, 6] (fun x _ => ∃ i : Nat, x = .int .i64 i ∧ (i : Int) ≤ 4096 ∧ i ≤ n.toNat ∧ ∀ j, j < i → goodAt zs j) (fun x _ => 5000 - (intOf x).toNat)
  case atStart => exact ⟨0, rfl, by omega, Nat.zero_le _, fun j hj => absurd hj (Nat.not_lt_zero j)⟩
  case round =>
    obtain ⟨i, rfl, hi, hin, hg⟩ := hrel
    have HG := hid hg
    have HIN := hid hin
    clear hg hin
    by_cases hlt : (i : Int) < n
    · obtain ⟨r, hr⟩ : ∃ r, atR zs i = r := ⟨_, rfl⟩
      have HR := hid hr
      clear hr
      by_cases hz : r = 0
      · have hres : Hid (distR zs n = false) := by
          show _ = _
          rw [HD.out, decide_eq_false_iff_not]
          exact fun hall => (hall i (by omega)).1 (by rw [HR.out, hz])
        subst hz
        go_wp2_with fail
        refine (rat_val v zs i 0 _ HV.out (by omega) HR.out).mono ?_
        rintro e w1 ⟨rfl, rfl⟩
        go_wp2_with fail
        go_ret
        exact ⟨by rw [hres.out]; rfl, rfl⟩
      · have hz' : ((r : Int) == 0) = false := by rw [beq_eq_false_iff_ne]; omega
        go_wp2_with fail
        refine (rat_val v zs i r _ HV.out (by omega) HR.out).mono ?_
        rintro e w1 ⟨rfl, rfl⟩
        go_wp2_with fail
        go_loop [6] (fun x => ∃ k : Nat, x = .int .i64 k ∧ k ≤ i ∧ ∀ j : Nat, j < k → atR zs j ≠ r) (fun x => 5000 - (intOf x).toNat)
        case atStart => exact ⟨0, rfl, Nat.zero_le _, fun j hj => absurd hj (Nat.not_lt_zero j)⟩
        case round =>
          obtain ⟨k, rfl, hk, hu⟩ := hrel
          have HU := hid hu
          clear hu
          by_cases hkl : k < i
          · obtain ⟨q, hq⟩ : ∃ q, atR zs k = q := ⟨_, rfl⟩
            have HQ := hid hq
            clear hq
            by_cases he : q = r
            · have hres : Hid (distR zs n = false) := by
                show _ = _
                rw [HD.out, decide_eq_false_iff_not]
                exact fun hall => (hall i (by omega)).2 k hkl (by rw [HR.out, HQ.out, he])
              subst he
              go_wp2_with fail
              refine (rat_val v zs k q _ HV.out (by omega) HQ.out).mono ?_
              rintro e w1 ⟨rfl, rfl⟩
              go_wp2_with fail
              refine (rat_val v zs i q _ HV.out (by omega) HR.out).mono ?_
              rintro e w1 ⟨rfl, rfl⟩
              go_wp2_with fail
              go_ret
              exact ⟨by rw [hres.out]; rfl, rfl⟩
            · have he' : ((q : Int) == (r : Int)) = false := by rw [beq_eq_false_iff_ne]; omega
              go_wp2_with fail
              refine (rat_val v zs k q _ HV.out (by omega) HQ.out).mono ?_
              rintro e w1 ⟨rfl, rfl⟩
              go_wp2_with fail
              refine (rat_val v zs i r _ HV.out (by omega) HR.out).mono ?_
              rintro e w1 ⟨rfl, rfl⟩
              go_wp2_with fail
              go_round
              case rel =>
                refine ⟨k + 1, by go_num, by omega, fun j hj => ?_⟩
                rcases Nat.lt_succ_iff_lt_or_eq.1 hj with hj | rfl
                · exact HU.out j hj
                · rw [HQ.out]; exact he
              case measure => simp [intOf]; omega
          · obtain rfl : k = i := by omega
            go_wp2_with fail
            go_round
            case rel =>
              refine ⟨k + 1, by go_num, by omega, by omega, fun j hj => ?_⟩
              rcases Nat.lt_succ_iff_lt_or_eq.1 hj with hj | rfl
              · exact HG.out j hj
              · exact ⟨by rw [HR.out]; exact hz, fun l hl => by rw [HR.out]; exact HU.out l hl⟩
            case measure => simp [intOf]; omega
    · have hres : Hid (distR zs n = true) := by
        show _ = _
        rw [HD.out, decide_eq_true_eq]
        exact fun j hj => HG.out j (by omega)
      go_wp2_with fail
      go_ret
      exact ⟨by rw [hres.out]; rfl, rfl⟩

set_option maxRecDepth 100000 in
set_option maxHeartbeats 4000000 in
theorem rdist_gt {B : Nat} (v : Value) (zs : List Nat) (n : Int) (W : World) (h : IsVals B W v (natVals zs)) (h4 : ¬ n ≤ 4096) :
    Calls Try.prog 65 #[v, .int .i64 n] W fun e w' => e = .returned (.bool (distR zs n)) ∧ W = w' := by
  have HV := hid h
  clear h
  have hd : distR zs n = decide (∀ i : Nat, i < (4096 : Int).toNat → goodAt zs i) := by unfold distR; rw [if_neg h4]
  have HD := hid hd
  clear hd
  go_enter Try.func65, Try.ntmps65
  go_wp2_with fail
  go_loop [5, 6] (fun x _ => ∃ i : Nat, x = .int .i64 i ∧ (i : Int) ≤ 4096 ∧ i ≤ (4096 : Int).toNat ∧ ∀ j, j < i → goodAt zs j) (fun x _ => 5000 - (intOf x).toNat)
  case atStart => exact ⟨0, rfl, by omega, Nat.zero_le _, fun j hj => absurd hj (Nat.not_lt_zero j)⟩
  case round =>
    obtain ⟨i, rfl, hi, hin, hg⟩ := hrel
    have HG := hid hg
    have HIN := hid hin
    clear hg hin
    by_cases hlt : (i : Int) < (4096 : Int)
    · obtain ⟨r, hr⟩ : ∃ r, atR zs i = r := ⟨_, rfl⟩
      have HR := hid hr
      clear hr
      by_cases hz : r = 0
      · have hres : Hid (distR zs n = false) := by
          show _ = _
          rw [HD.out, decide_eq_false_iff_not]
          exact fun hall => (hall i (by omega)).1 (by rw [HR.out, hz])
        subst hz
        go_wp2_with fail
        refine (rat_val v zs i 0 _ HV.out (by omega) HR.out).mono ?_
        rintro e w1 ⟨rfl, rfl⟩
        go_wp2_with fail
        go_ret
        exact ⟨by rw [hres.out]; rfl, rfl⟩
      · have hz' : ((r : Int) == 0) = false := by rw [beq_eq_false_iff_ne]; omega
        go_wp2_with fail
        refine (rat_val v zs i r _ HV.out (by omega) HR.out).mono ?_
        rintro e w1 ⟨rfl, rfl⟩
        go_wp2_with fail
        go_loop [6] (fun x => ∃ k : Nat, x = .int .i64 k ∧ k ≤ i ∧ ∀ j : Nat, j < k → atR zs j ≠ r) (fun x => 5000 - (intOf x).toNat)
        case atStart => exact ⟨0, rfl, Nat.zero_le _, fun j hj => absurd hj (Nat.not_lt_zero j)⟩
        case round =>
          obtain ⟨k, rfl, hk, hu⟩ := hrel
          have HU := hid hu
          clear hu
          by_cases hkl : k < i
          · obtain ⟨q, hq⟩ : ∃ q, atR zs k = q := ⟨_, rfl⟩
            have HQ := hid hq
            clear hq
            by_cases he : q = r
            · have hres : Hid (distR zs n = false) := by
                show _ = _
                rw [HD.out, decide_eq_false_iff_not]
                exact fun hall => (hall i (by omega)).2 k hkl (by rw [HR.out, HQ.out, he])
              subst he
              go_wp2_with fail
              refine (rat_val v zs k q _ HV.out (by omega) HQ.out).mono ?_
              rintro e w1 ⟨rfl, rfl⟩
              go_wp2_with fail
              refine (rat_val v zs i q _ HV.out (by omega) HR.out).mono ?_
              rintro e w1 ⟨rfl, rfl⟩
              go_wp2_with fail
              go_ret
              exact ⟨by rw [hres.out]; rfl, rfl⟩
            · have he' : ((q : Int) == (r : Int)) = false := by rw [beq_eq_false_iff_ne]; omega
              go_wp2_with fail
              refine (rat_val v zs k q _ HV.out (by omega) HQ.out).mono ?_
              rintro e w1 ⟨rfl, rfl⟩
              go_wp2_with fail
              refine (rat_val v zs i r _ HV.out (by omega) HR.out).mono ?_
              rintro e w1 ⟨rfl, rfl⟩
              go_wp2_with fail
              go_round
              case rel =>
                refine ⟨k + 1, by go_num, by omega, fun j hj => ?_⟩
                rcases Nat.lt_succ_iff_lt_or_eq.1 hj with hj | rfl
                · exact HU.out j hj
                · rw [HQ.out]; exact he
              case measure => simp [intOf]; omega
          · obtain rfl : k = i := by omega
            go_wp2_with fail
            go_round
            case rel =>
              refine ⟨k + 1, by go_num, by omega, by omega, fun j hj => ?_⟩
              rcases Nat.lt_succ_iff_lt_or_eq.1 hj with hj | rfl
              · exact HG.out j hj
              · exact ⟨by rw [HR.out]; exact hz, fun l hl => by rw [HR.out]; exact HU.out l hl⟩
            case measure => simp [intOf]; omega
    · have hres : Hid (distR zs n = true) := by
        show _ = _
        rw [HD.out, decide_eq_true_eq]
        exact fun j hj => HG.out j (by omega)
      go_wp2_with fail
      go_ret
      exact ⟨by rw [hres.out]; rfl, rfl⟩

theorem rdist_any {B : Nat} (v : Value) (zs : List Nat) (n : Int) (W : World) (h : IsVals B W v (natVals zs)) (hn : -9223372036854775808 ≤ n) :
    Calls Try.prog 65 #[v, .int .i64 n] W fun e w' => e = .returned (.bool (distR zs n)) ∧ W = w' := by
  by_cases h4 : n ≤ 4096
  · exact rdist_le v zs n W h hn h4
  · exact rdist_gt v zs n W h h4

end C06
end Go.Proofs.Ytnmfdkkdnaeikaa
