/- Walk of layer 6 (ids): the law on texts; no condition. -/
import Derived.Test.YtnmfdkkdnaeikaaK06
namespace Go.Proofs.Ytnmfdkkdnaeikaa
open Go.RowKit Go.Peri
namespace C06
open C01

theorem rof_val (s : ByteArray) (W : World) (a b : Nat) (q : Int) (hr : ofR s = ((a, b), q)) :
    Calls Try.prog 53 #[.string s] W fun e w' => e = .returned (.tuple #[.agg #[.int .u64 a, .int .u64 b], .int .i64 q]) ∧ Below W.heap.size W w' := by
  have := rof_any s W; rw [hr] at this; exact this
theorem rspanOf_val (s : ByteArray) (W : World) (a : Nat) (q : Int) (hs : s.size ≤ 1000000000000000) (hr : spanOfR s = (a, q)) :
    Calls Try.prog 55 #[.string s] W fun e w' => e = .returned (.tuple #[.int .u64 a, .int .i64 q]) ∧ W = w' := by
  have := rspanOf_any s W hs; rw [hr] at this; exact this
theorem rtext_val (hi lo : Nat) (W : World) (s : ByteArray) (h1 : hi < 18446744073709551616) (h2 : lo < 18446744073709551616) (hr : txt hi ++ txt lo = s) :
    Calls Try.prog 57 #[.agg #[.int .u64 hi, .int .u64 lo]] W fun e w' => e = .returned (.string s) ∧ Below W.heap.size W w' := by
  have := rtext_any hi lo W h1 h2; rw [hr] at this; exact this
theorem rspan_val (n : Nat) (W : World) (s : ByteArray) (hn : n < 18446744073709551616) (hr : txt n = s) : Calls Try.prog 59 #[.int .u64 n] W fun e w' => e = .returned (.string s) ∧ Below W.heap.size W w' := by
  have := rspanText n W hn; rw [hr] at this; exact this
theorem rzero_val (hi lo : Nat) (r : Bool) (W : World) (hr : zeroR hi lo = r) :
    Calls Try.prog 61 #[.agg #[.int .u64 hi, .int .u64 lo]] W fun e w' => e = .returned (.bool r) ∧ Below W.heap.size W w' := by
  have := rzero_any hi lo W; rw [hr] at this; exact this

set_option maxRecDepth 100000 in
set_option maxHeartbeats 4000000 in
theorem texts_walk (hi lo : Nat) (s : ByteArray) (W : World) (h1 : Hid (hi < 18446744073709551616)) (h2 : Hid (lo < 18446744073709551616)) (hs : s.size ≤ 140737488351232) :
    Calls Try.prog 14 #[.agg #[.int .u64 hi, .int .u64 lo], .string s] W fun e w' => e = .returned (.bool true) ∧ Below W.heap.size W w' := by
  by_cases h200 : 200 < s.size
  · go_enter Try.func14, Try.ntmps14
    go_wp2_with fail
    refine (known_any _).mono ?_
    rintro e w1 ⟨rfl, hb1⟩
    have HB1 : Hid (Below W.heap.size W w1) := by
      show Below _ _ _
      exact Below.trans ((Below.refl _ _).alloc (Nat.le_refl _) _) (hb1.mono (by simp))
    clear hb1
    go_wp2_with fail
    go_ret
    exact ⟨rfl, HB1.out⟩
  have q := eq56
  obtain ⟨a, b, c, hr⟩ : ∃ a b c, ofR s = ((a, b), c) := ⟨_, _, _, rfl⟩
  obtain ⟨d, f, hp⟩ : ∃ a b, spanOfR s = (a, b) := ⟨_, _, rfl⟩
  obtain ⟨t, ht⟩ : ∃ t, txt hi ++ txt lo = t := ⟨_, rfl⟩
  obtain ⟨u, hu⟩ : ∃ u, txt hi = u := ⟨_, rfl⟩
  obtain ⟨z, hz⟩ : ∃ z, zeroR hi lo = z := ⟨_, rfl⟩
  have HR := hid hr
  have HP := hid hp
  have HT := hid ht
  have HU := hid hu
  have HZ := hid hz
  clear hr hp ht hu hz
  go_enter Try.func14, Try.ntmps14
  go_wp2_with fail
  refine (of_val s _ _ _ _ (by omega) HR.out).mono ?_
  rintro e w1 ⟨rfl, hb1⟩
  have k0 : w1.cell? ⟨W.heap.size, 0, none⟩ = some (.int .u64 hi) := by rw [hb1.cell (by simp <;> omega)]; simp [go_sem]
  have k1 : w1.cell? ⟨W.heap.size, 1, none⟩ = some (.int .u64 lo) := by rw [hb1.cell (by simp <;> omega)]; simp [go_sem]
  have g1 : W.heap.size < w1.heap.size := by have := hb1.size; simp at this; omega
  have HB1 : Hid (Below W.heap.size W w1) := by
    show Below _ _ _
    exact Below.trans ((Below.refl _ _).alloc (Nat.le_refl _) _) (hb1.mono (by simp))
  clear hb1
  go_wp2_with fail
  refine (rof_val s _ _ _ _ HR.out).mono ?_
  rintro e w2 ⟨rfl, hb2⟩
  have j0 : w2.cell? ⟨W.heap.size, 0, none⟩ = some (.int .u64 hi) := by rw [hb2.cell (by simp; omega)]; simp [go_sem, k0, g1]
  have j1 : w2.cell? ⟨W.heap.size, 1, none⟩ = some (.int .u64 lo) := by rw [hb2.cell (by simp; omega)]; simp [go_sem, k1, g1]
  have j2 : w2.cell? ⟨w1.heap.size, 0, none⟩ = some (.int .u64 a) := by rw [hb2.cell (by simp <;> omega)]; simp [go_sem]
  have j3 : w2.cell? ⟨w1.heap.size, 1, none⟩ = some (.int .u64 b) := by rw [hb2.cell (by simp <;> omega)]; simp [go_sem]
  have g2 : w1.heap.size < w2.heap.size := by have := hb2.size; simp at this; omega
  have g3 : W.heap.size < w2.heap.size := Nat.lt_trans g1 g2
  have HB2 : Hid (Below W.heap.size W w2) := by
    show Below _ _ _
    exact Below.trans (HB1.out.alloc HB1.out.size _) (hb2.mono (by simp; omega))
  clear hb2 k0 k1
  go_wp2_with fail
  refine (spanOf_val s _ _ _ (by omega) HP.out).mono ?_
  rintro e w' ⟨rfl, rfl⟩
  go_wp2_with fail
  refine (rspanOf_val s _ _ _ (by omega) HP.out).mono ?_
  rintro e w' ⟨rfl, rfl⟩
  go_wp2_with fail
  refine wp_region_bw (by kernel_rfl) (by kernel_rfl) ?_
  repeat (go_big_quiet_step ((first
    | (go_at_call 56; exact bw_call (text_val _ _ _ _ h1.out h2.out HT.out))
    | (go_at_call 57; exact bw_call (rtext_val _ _ _ _ h1.out h2.out HT.out))
    | (go_at_call 58; exact bw_call (span_val _ _ _ h1.out HU.out))
    | (go_at_call 59; exact bw_call (rspan_val _ _ _ h1.out HU.out))
    | (go_at_call 60; exact bw_call (zero_val _ _ _ _ h1.out h2.out HZ.out))
    | (go_at_call 61; exact bw_call (rzero_val _ _ _ _ HZ.out))
    | (go_at_call 51; exact bw_call (known_any _)))))
  refine wpQuiet_nil ?_
  rintro w3 ⟨⟨_, hb3⟩, rfl⟩
  have HB3 : Hid (Below W.heap.size W w3) := by
    show Below _ _ _
    exact Below.trans (HB2.out.alloc HB2.out.size _) (hb3.mono (by have := HB2.out.size; simp; omega))
  clear hb3
  go_wp2_with fail
  go_ret
  exact ⟨rfl, HB3.out⟩
end C06
end Go.Proofs.Ytnmfdkkdnaeikaa
