/- Walks of layer 15 (chance): what each call returns and what it leaves of memory; no condition. -/
import Derived.Test.YtefaegoajjcfjaaK15
namespace Go.Proofs.Ytefaegoajjcfjaa
open Go.RowKit Go.Peri
namespace C15

def cnt (d p : Int) : Nat → Int
  | 0 => 0
  | k + 1 => cnt d p k + if (d + k) % 100 < p then 1 else 0
theorem cnt_mod (d p : Int) : ∀ k, cnt (d % 100) p k = cnt d p k
  | 0 => rfl
  | k + 1 => by simp only [cnt, cnt_mod d p k]; rw [show (d % 100 + (k : Int)) % 100 = (d + k) % 100 by omega]
theorem cnt_shift (d p : Int) : ∀ k, cnt (d + 1) p k + (if d % 100 < p then 1 else 0) = cnt d p (k + 1)
  | 0 => by simp [cnt]
  | k + 1 => by
    have ih := cnt_shift d p k
    have e : cnt (d + 1) p (k + 1) = cnt (d + 1) p k + if (d + 1 + k) % 100 < p then 1 else 0 := rfl
    have e2 : cnt d p (k + 1 + 1) = cnt d p (k + 1) + if (d + ((k + 1 : Nat) : Int)) % 100 < p then 1 else 0 := rfl
    rw [e, e2, ← ih, show d + ((k + 1 : Nat) : Int) = d + 1 + (k : Int) by omega]
    omega
theorem cnt_next (d p : Int) : cnt (d + 1) p 100 = cnt d p 100 := by
  have h := cnt_shift d p 100
  have e : cnt d p (100 + 1) = cnt d p 100 + if (d + ((100 : Nat) : Int)) % 100 < p then 1 else 0 := rfl
  rw [e, show (d + ((100 : Nat) : Int)) % 100 = d % 100 by omega] at h
  omega
theorem cnt_nat (p : Int) : ∀ n : Nat, cnt n p 100 = cnt 0 p 100
  | 0 => rfl
  | n + 1 => by rw [show ((n + 1 : Nat) : Int) = (n : Int) + 1 by omega, cnt_next, cnt_nat p n]
theorem cnt_zero (p : Int) (h0 : 0 ≤ p) : ∀ k : Nat, k ≤ 100 → cnt 0 p k = if (k : Int) ≤ p then (k : Int) else p
  | 0, _ => by simp [cnt, h0]
  | k + 1, hk => by
    have ih := cnt_zero p h0 k (by omega)
    simp only [cnt]
    rw [ih, show (0 + (k : Int)) % 100 = k by omega]
    split <;> split <;> split <;> omega
theorem cnt_all (d p : Int) (h0 : 0 ≤ p) (h1 : p ≤ 100) : cnt d p 100 = p := by
  rw [← cnt_mod]
  obtain ⟨n, hn⟩ := Int.eq_ofNat_of_zero_le (show 0 ≤ d % 100 by omega)
  rw [hn, cnt_nat, cnt_zero p h0 100 (by omega)]
  split <;> omega
theorem cnt_bound (d p : Int) : ∀ k, 0 ≤ cnt d p k ∧ cnt d p k ≤ k
  | 0 => by simp [cnt]
  | k + 1 => by have := cnt_bound d p k; simp only [cnt]; split <;> omega

set_option maxRecDepth 100000 in
set_option maxHeartbeats 1000000 in
theorem parts_walk (d p m : Int) (w : World) :
    Calls Try.prog 4 #[.int .i64 d, .int .i64 p, .int .i64 m] w fun e w' => e = .returned (.bool true) ∧ Below w.heap.size w w' := by
  have e0 : decide (d % 100 < 0) = false := by simp; omega
  have e1 : decide (d % 100 < 100) = true := by simp; omega
  have key : ∀ b1 b2 b3 : Bool, decide (d % 100 < p) = b1 → decide (p ≤ m) = b2 → decide (d % 100 < m) = b3 → (b1 = true → b2 = true → b3 = true) →
    Calls Try.prog 4 #[.int .i64 d, .int .i64 p, .int .i64 m] w fun e w' => e = .returned (.bool true) ∧ Below w.heap.size w w' := by
    intro b1 b2 b3 f1 f2 f3 himp
    have hc : (b1 = true ∧ b2 = true ∧ b3 = true) ∨ (b1 = true ∧ b2 = false) ∨ b1 = false := by
      cases b1 <;> cases b2 <;> simp_all
    clear himp
    by_cases c : 0 ≤ p ∧ p ≤ 100 ∧ -1000000 ≤ d ∧ d ≤ 1000000
    · obtain ⟨c1, c2, c3, c4⟩ := c
      have HA := hid (cnt_all d p c1 c2)
      rcases hc with ⟨rfl, rfl, rfl⟩ | ⟨rfl, rfl⟩ | rfl
      all_goals
        go_enter Try.func4, Try.ntmps4
        go_wp2_with (go_at_call 18; refine (fires_any _ _ _).mono ?_; rintro e w' ⟨rfl, rfl⟩)
        go_loop [7, 8] (fun n i => ∃ k : Nat, k ≤ 100 ∧ i = .int .i64 k ∧ n = .int .i64 (cnt d p k)) (fun _ i => 100 - (intOf i).toNat)
        case atStart => exact ⟨0, by omega, rfl, rfl⟩
        case round =>
          obtain ⟨k, hk, rfl, rfl⟩ := hrel
          have hb := cnt_bound d p k
          by_cases hlt : k < 100
          · by_cases ht : (d + k) % 100 < p
            all_goals
              have hs : Hid (cnt d p (k + 1) = cnt d p k + if (d + k) % 100 < p then 1 else 0) := rfl
              go_wp2_with (go_at_call 18; refine (fires_any _ _ _).mono ?_; rintro e w' ⟨rfl, rfl⟩)
              go_round
              case rel => exact ⟨k + 1, by omega, by go_num, by rw [hs.out]; first | rw [if_pos (by omega)] | (rw [if_neg (by omega)]; go_num)⟩
              case measure => simp [intOf]; omega
          · obtain rfl : k = 100 := by omega
            have hp : (cnt d p 100 == p) = true := by rw [HA.out]; simp
            clear hk hlt
            go_wp2_with fail
            refine (known_any _).mono ?_
            rintro e w1 ⟨rfl, hb1⟩
            go_wp2_with fail
            go_ret
            exact ⟨rfl, hb1⟩
    · have hd : p < 0 ∨ (0 ≤ p ∧ 100 < p) ∨ (0 ≤ p ∧ p ≤ 100 ∧ d < -1000000) ∨ (0 ≤ p ∧ p ≤ 100 ∧ -1000000 ≤ d ∧ 1000000 < d) := by omega
      clear c
      rcases hd with g | ⟨g1, g2⟩ | ⟨g1, g2, g3⟩ | ⟨g1, g2, g3, g4⟩
      all_goals
        rcases hc with ⟨rfl, rfl, rfl⟩ | ⟨rfl, rfl⟩ | rfl
        all_goals
          go_enter Try.func4, Try.ntmps4
          go_wp2_with (first
            | (go_at_call 18; refine (fires_any _ _ _).mono ?_; rintro e w' ⟨rfl, rfl⟩)
            | (go_at_call 24; refine (known_any _).mono ?_; rintro e w' ⟨rfl, hb⟩))
          go_ret
          exact ⟨rfl, by assumption⟩
  exact key _ _ _ rfl rfl rfl (by simp; omega)
end C15
end Go.Proofs.Ytefaegoajjcfjaa
