/- Walk of layer 6 (ids): the law on numbers that come back, whole; no condition. -/
import Derived.Test.YtnmfdkkdnaeikaaQ06c
import Derived.Test.YtnmfdkkdnaeikaaB06
namespace Go.Peri
open Go.RowKit
theorem two_of_arg {w : World} {B : Nat} {v : Value} (h : Arg w B (.cons (.int .i64) (.cons (.int .i64) .nil)) v) : ∃ a b : Int, v = .agg #[.int .i64 a, .int .i64 b] ∧ (-9223372036854775808 ≤ a ∧ a ≤ 9223372036854775807) ∧ (-9223372036854775808 ≤ b ∧ b ≤ 9223372036854775807) := by
  obtain ⟨cs, rfl, c1, c2, e, _, h1, c3, c4, e2, _, h2, h3⟩ := h
  obtain ⟨x, rfl, hx⟩ := h1
  obtain ⟨y, rfl, hy⟩ := h2
  obtain ⟨n, ex, hn⟩ := i64_of_arg (w := w) (B := B) (v := .int .i64 x) ⟨x, rfl, hx⟩
  obtain ⟨m, ey, hm⟩ := i64_of_arg (w := w) (B := B) (v := .int .i64 y) ⟨y, rfl, hy⟩
  have h4 : c4 = [] := h3
  subst h4
  refine ⟨n, m, ?_, hn, hm⟩
  congr 1
  apply Array.toList_inj.1
  rw [e, e2, ex, ey]
  rfl
end Go.Peri
namespace Go.Proofs.Ytnmfdkkdnaeikaa
open Go.RowKit Go.Peri
namespace C06
open C01

set_option maxRecDepth 100000 in
set_option maxHeartbeats 4000000 in
theorem back_big (a b c d : Nat) (v : Value) (zs : List Nat) (x y : Int) (W : World) (h : IsVals W.heap.size W v (natVals zs)) (hbig : ¬ (zs.length ≤ 60 ∧ y ≤ 200)) : BackQ a b c d v x y W := by
  unfold BackQ
  obtain ⟨p, cap, rfl, hc, hm, _⟩ := nats_parts h
  clear h
  by_cases h60 : 60 < zs.length
  · have h60' : (60 : Int) < (zs.length : Int) := by omega
    clear hbig
    go_enter Try.func16, Try.ntmps16
    go_wp2_with fail
    refine (known_any _).mono ?_
    rintro e w1 ⟨rfl, hb1⟩
    have HB1 : Hid (Below W.heap.size W w1) := by
      show Below _ _ _
      exact ((((Below.refl _ W).alloc (Nat.le_refl _) _).alloc (by simp) _).alloc (by simp <;> omega) _).trans (hb1.mono (by simp <;> omega))
    clear hb1
    go_wp2_with fail
    go_ret
    exact ⟨rfl, HB1.out⟩
  · have h60' : ¬ (60 : Int) < (zs.length : Int) := by omega
    have h200 : 200 < y := by omega
    clear hbig
    go_enter Try.func16, Try.ntmps16
    go_wp2_with fail
    refine (known_any _).mono ?_
    rintro e w1 ⟨rfl, hb1⟩
    have HB1 : Hid (Below W.heap.size W w1) := by
      show Below _ _ _
      exact ((((Below.refl _ W).alloc (Nat.le_refl _) _).alloc (by simp) _).alloc (by simp <;> omega) _).trans (hb1.mono (by simp <;> omega))
    clear hb1
    go_wp2_with fail
    go_ret
    exact ⟨rfl, HB1.out⟩

theorem ids_back (a b c d : Nat) (v : Value) (zs : List Nat) (x y : Int) (W : World) (h : IsVals W.heap.size W v (natVals zs)) (ha : a < 18446744073709551616) (hb : b < 18446744073709551616) (hc : c < 18446744073709551616) (hd : d < 18446744073709551616)
    (hx : -9223372036854775808 ≤ x) (hy : -9223372036854775808 ≤ y) (hz : ∀ z ∈ zs, z < 18446744073709551616) : BackQ a b c d v x y W := by
  by_cases hbig : zs.length ≤ 60 ∧ y ≤ 200
  · by_cases hzb : b = 0
    · subst hzb
      by_cases hza : a = 0
      · subst hza
        exact back_tt c d v zs x y W h hbig.1 hbig.2 ⟨ha, hb, hc, hd, hx, hy, hz, by simp, by simp⟩
      · exact back_ft a c d v zs x y W h hbig.1 hbig.2 ⟨ha, hb, hc, hd, hx, hy, hz, by simp [hza], by simp⟩
    · exact back_ff a b c d v zs x y W h hbig.1 hbig.2 ⟨ha, hb, hc, hd, hx, hy, hz, by simp [hzb], by simp [hzb]⟩
  · exact back_big a b c d v zs x y W h hbig
end C06
end Go.Proofs.Ytnmfdkkdnaeikaa
