/- Walks of layer 6 (ids): the fixed calls; no condition. -/
import Derived.Test.YtnmfdkkdnaeikaaI06
namespace Go.Proofs.Ytnmfdkkdnaeikaa
open Go.RowKit Go.Peri
namespace C06
open C01

theorem of_val (s : ByteArray) (W : World) (a b : Nat) (q : Int) (hs : s.size ≤ 1000000000000000) (hr : ofR s = ((a, b), q)) :
    Calls Try.prog 52 #[.string s] W fun e w' => e = .returned (.tuple #[.agg #[.int .u64 a, .int .u64 b], .int .i64 q]) ∧ Below W.heap.size W w' := by
  have := of_any s W hs; rw [hr] at this; exact this
theorem spanOf_val (s : ByteArray) (W : World) (a : Nat) (q : Int) (hs : s.size ≤ 1000000000000000) (hr : spanOfR s = (a, q)) :
    Calls Try.prog 54 #[.string s] W fun e w' => e = .returned (.tuple #[.int .u64 a, .int .i64 q]) ∧ W = w' := by
  have := spanOf_any s W hs; rw [hr] at this; exact this
theorem text_val (hi lo : Nat) (W : World) (s : ByteArray) (h1 : hi < 18446744073709551616) (h2 : lo < 18446744073709551616) (hr : txt hi ++ txt lo = s) :
    Calls Try.prog 56 #[.agg #[.int .u64 hi, .int .u64 lo]] W fun e w' => e = .returned (.string s) ∧ Below W.heap.size W w' := by
  have := text_any hi lo W h1 h2; rw [hr] at this; exact this
theorem span_val (n : Nat) (W : World) (s : ByteArray) (hn : n < 18446744073709551616) (hr : txt n = s) : Calls Try.prog 58 #[.int .u64 n] W fun e w' => e = .returned (.string s) ∧ Below W.heap.size W w' := by
  have := spanText n W hn; rw [hr] at this; exact this
theorem at_val {B : Nat} (v : Value) (zs : List Nat) (n : Int) (r : Nat) (w : World) (h : IsVals B w v (natVals zs)) (hn : -9223372036854775808 ≤ n ∧ n ≤ 9223372036854775807) (hr : atR zs n = r) : Calls Try.prog 62 #[v, .int .i64 n] w fun e w' => e = .returned (.int .u64 r) ∧ w = w' := by
  have := at_any v zs n w h hn; rw [hr] at this; exact this
theorem dist_val (v : Value) (zs : List Nat) (n : Int) (b : Bool) (W : World) (h : IsVals W.heap.size W v (natVals zs)) (hz : Hid (∀ z ∈ zs, z < 18446744073709551616)) (hn : -9223372036854775808 ≤ n) (hr : distR zs n = b) :
    Calls Try.prog 64 #[v, .int .i64 n] W fun e w' => e = .returned (.bool b) ∧ Below W.heap.size W w' := by
  have := dist_any v zs n W h hz hn; rw [hr] at this; exact this
theorem isVals_nil (B : Nat) (w : World) : IsVals B w (.slice none 0 0) (natVals []) := ⟨none, 0, rfl, Nat.le_refl _, Nat.zero_le _, fun _ => rfl, .inl rfl⟩

set_option maxRecDepth 100000 in
set_option maxHeartbeats 4000000 in
theorem known_any (W : World) : Calls Try.prog 51 #[] W fun e w' => e = .returned (.bool true) ∧ Below W.heap.size W w' := by
  have F1 : Hid (ofR ⟨#[48, 48, 48, 48, 48, 48, 48, 48, 48, 48, 48, 48, 48, 48, 48, 49, 48, 48, 48, 48, 48, 48, 48, 48, 48, 48, 48, 48, 48, 48, 48, 50]⟩ = ((1, 2), 0)) := by show _ = _; kernel_rfl
  have F2 : Hid (spanOfR ⟨#[48, 48, 48, 48, 48, 48, 48, 48, 48, 48, 48, 48, 48, 48, 102, 102]⟩ = (255, 0)) := by show _ = _; kernel_rfl
  have F3 : Hid (txt 1 ++ txt 2 = ⟨#[48, 48, 48, 48, 48, 48, 48, 48, 48, 48, 48, 48, 48, 48, 48, 49, 48, 48, 48, 48, 48, 48, 48, 48, 48, 48, 48, 48, 48, 48, 48, 50]⟩) := by show _ = _; kernel_rfl
  have F4 : Hid (txt 255 = ⟨#[48, 48, 48, 48, 48, 48, 48, 48, 48, 48, 48, 48, 48, 48, 102, 102]⟩) := by show _ = _; kernel_rfl
  have F5 : Hid (zeroR 0 0 = true) := by show _ = _; kernel_rfl
  have F6 : Hid (atR [] 3 = 4294967299) := by show _ = _; kernel_rfl
  have F7 : Hid (atR [7] 0 = 7) := by show _ = _; kernel_rfl
  have F8 : Hid (distR [] 9 = true) := by show _ = _; kernel_rfl
  have F9 : Hid (distR [7, 7] 2 = false) := by show _ = _; kernel_rfl
  have HZ0 : Hid (∀ z ∈ ([] : List Nat), z < 18446744073709551616) := fun z hz => by simp at hz
  have HZ7 : Hid (∀ z ∈ ([7, 7] : List Nat), z < 18446744073709551616) := fun z hz => by simp at hz; omega
  have q := eq56
  go_enter Try.func51, Try.ntmps51
  go_wp2_with fail
  refine (of_val _ _ _ _ _ (by simp [ByteArray.size]) F1.out).mono ?_
  rintro e w1 ⟨rfl, hb1⟩
  have HB1 := hid hb1
  clear hb1
  go_wp2_with fail
  refine (spanOf_val _ _ _ _ (by simp [ByteArray.size]) F2.out).mono ?_
  rintro e w' ⟨rfl, rfl⟩
  go_wp2_with fail
  refine (text_val 1 2 _ _ (by omega) (by omega) F3.out).mono ?_
  rintro e w2 ⟨rfl, hb2⟩
  have k0 : w2.cell? ⟨w1.heap.size, 0, none⟩ = some (.int .u64 1) := by rw [hb2.cell (by simp <;> omega)]; simp [go_sem]
  have k1 : w2.cell? ⟨w1.heap.size, 1, none⟩ = some (.int .u64 2) := by rw [hb2.cell (by simp <;> omega)]; simp [go_sem]
  have HB2 : Hid (Below W.heap.size W w2) := by
    show Below _ _ _
    have h1 := HB1.out.size
    refine Below.trans ?_ (hb2.mono (by simp; omega))
    exact HB1.out.alloc h1 _
  clear hb2
  go_wp2_with fail
  refine (span_val 255 _ _ (by omega) F4.out).mono ?_
  rintro e w3 ⟨rfl, hb3⟩
  have HB3 := hid (HB2.out.trans (hb3.mono HB2.out.size))
  clear hb3
  go_wp2_with fail
  refine (zero_val 0 0 true _ (by omega) (by omega) F5.out).mono ?_
  rintro e w4 ⟨rfl, hb4⟩
  have HB4 := hid (HB3.out.trans (hb4.mono HB3.out.size))
  clear hb4
  go_wp2_with fail
  refine (at_val (B := 0) _ [] 3 4294967299 _ (isVals_nil _ _) (by omega) F6.out).mono ?_
  rintro e w' ⟨rfl, rfl⟩
  go_wp2_with fail
  refine (at_val _ [7] 0 7 _ (isVals_new w4 (natVals [7]) 22 (by decide)) (by omega) F7.out).mono ?_
  rintro e w' ⟨rfl, rfl⟩
  have HB5 := hid (HB4.out.alloc HB4.out.size (.cells (natVals [7]).toArray 22))
  go_wp2_with fail
  refine (dist_val _ [] 9 true _ (isVals_nil _ _) HZ0 (by omega) F8.out).mono ?_
  rintro e w6 ⟨rfl, hb6⟩
  have HB6 := hid (HB5.out.trans (hb6.mono HB5.out.size))
  clear hb6
  go_wp2_with fail
  refine (dist_val _ [7, 7] 2 false _ ((isVals_new w6 (natVals [7, 7]) 22 (by decide)).mono (by simp)) HZ7 (by omega) F9.out).mono ?_
  rintro e w7 ⟨rfl, hb7⟩
  have HB7 := hid ((HB6.out.alloc HB6.out.size (.cells (natVals [7, 7]).toArray 22)).trans (hb7.mono (Nat.le_trans HB6.out.size (by simp [natVals]))))
  clear hb7
  go_wp2_with fail
  go_ret
  exact ⟨rfl, HB7.out⟩
end C06
end Go.Proofs.Ytnmfdkkdnaeikaa
