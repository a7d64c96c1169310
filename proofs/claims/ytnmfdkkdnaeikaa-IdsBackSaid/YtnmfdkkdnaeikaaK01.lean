/- Walks of layer 1 (octet): the fixed calls, and the laws that compare; no condition. -/
import Derived.Test.YtnmfdkkdnaeikaaS01
namespace Go.Proofs.Ytnmfdkkdnaeikaa
open Go.RowKit Go.Peri
namespace C01

theorem put_val (n : Nat) (w : Int) (W : World) (a : ByteArray) (b : Int) (hn : n < 18446744073709551616) (hr : putR n w = (a, b)) :
    Calls Try.prog 17 #[.int .u64 n, .int .i64 w] W fun e w' => e = .returned (.tuple #[.string a, .int .i64 b]) ∧ Below W.heap.size W w' := by
  have := put_any n w W hn; rw [hr] at this; exact this
theorem rput_val (n : Nat) (w : Int) (W : World) (a : ByteArray) (b : Int) (hn : n < 18446744073709551616) (hr : putR n w = (a, b)) :
    Calls Try.prog 18 #[.int .u64 n, .int .i64 w] W fun e w' => e = .returned (.tuple #[.string a, .int .i64 b]) ∧ Below W.heap.size W w' := by
  have := rput_any n w W hn; rw [hr] at this; exact this
theorem hex_val (n : Nat) (w : Int) (W : World) (a : ByteArray) (b : Int) (hn : n < 18446744073709551616) (hr : hexR n w = (a, b)) :
    Calls Try.prog 22 #[.int .u64 n, .int .i64 w] W fun e w' => e = .returned (.tuple #[.string a, .int .i64 b]) ∧ Below W.heap.size W w' := by
  have := hex_any n w W hn; rw [hr] at this; exact this
theorem rhex_val (n : Nat) (w : Int) (W : World) (a : ByteArray) (b : Int) (hn : n < 18446744073709551616) (hr : hexR n w = (a, b)) :
    Calls Try.prog 23 #[.int .u64 n, .int .i64 w] W fun e w' => e = .returned (.tuple #[.string a, .int .i64 b]) ∧ W = w' := by
  have := rhex_any n w W hn; rw [hr] at this; exact this
theorem get_val (s : ByteArray) (at_ w : Int) (W : World) (a : Nat) (b : Int) (hs : s.size ≤ 1000000000000000) (ha : -9223372036854775808 ≤ at_ ∧ at_ ≤ 9223372036854775807) (hr : getR s at_ w = (a, b)) :
    Calls Try.prog 20 #[.string s, .int .i64 at_, .int .i64 w] W fun e w' => e = .returned (.tuple #[.int .u64 a, .int .i64 b]) ∧ W = w' := by
  have := get_any s at_ w W hs ha; rw [hr] at this; exact this
theorem rget_val (s : ByteArray) (at_ w : Int) (W : World) (a : Nat) (b : Int) (hs : s.size ≤ 1000000000000000) (ha : -9223372036854775808 ≤ at_ ∧ at_ ≤ 9223372036854775807) (hr : getR s at_ w = (a, b)) :
    Calls Try.prog 21 #[.string s, .int .i64 at_, .int .i64 w] W fun e w' => e = .returned (.tuple #[.int .u64 a, .int .i64 b]) ∧ W = w' := by
  have := rget_any s at_ w W hs ha; rw [hr] at this; exact this
theorem unhex_val (s : ByteArray) (W : World) (a : Nat) (b : Int) (hs : s.size ≤ 1000000000000000) (hr : unhexR s = (a, b)) :
    Calls Try.prog 24 #[.string s] W fun e w' => e = .returned (.tuple #[.int .u64 a, .int .i64 b]) ∧ W = w' := by
  have := unhex_any s W hs; rw [hr] at this; exact this
theorem runhex_val (s : ByteArray) (W : World) (a : Nat) (b : Int) (hs : s.size ≤ 1000000000000000) (hr : unhexR s = (a, b)) :
    Calls Try.prog 25 #[.string s] W fun e w' => e = .returned (.tuple #[.int .u64 a, .int .i64 b]) ∧ W = w' := by
  have := runhex_any s W hs; rw [hr] at this; exact this

set_option maxRecDepth 100000 in
theorem known_any (W : World) : Calls Try.prog 19 #[] W fun e w' => e = .returned (.bool true) ∧ Below W.heap.size W w' := by
  have H1 : Hid (putR 258 2 = (⟨#[1, 2]⟩, 0)) := by show _ = _; kernel_rfl
  have H2 : Hid (getR ⟨#[120, 1, 2]⟩ 1 2 = (258, 0)) := by show _ = _; kernel_rfl
  have H3 : Hid (hexR 255 4 = (⟨#[48, 48, 102, 102]⟩, 0)) := by show _ = _; kernel_rfl
  have H4 : Hid (unhexR ⟨#[48, 48, 102, 102]⟩ = (255, 0)) := by show _ = _; kernel_rfl
  go_enter Try.func19, Try.ntmps19
  go_wp2_with fail
  refine (put_val 258 2 _ _ _ (by omega) H1.out).mono ?_
  rintro e w1 ⟨rfl, hb1⟩
  have HB1 := hid hb1
  clear hb1
  go_wp2_with fail
  refine (get_val _ 1 2 _ _ _ (by simp [ByteArray.size]) (by omega) H2.out).mono ?_
  rintro e w' ⟨rfl, rfl⟩
  go_wp2_with fail
  refine (hex_val 255 4 _ _ _ (by omega) H3.out).mono ?_
  rintro e w2 ⟨rfl, hb2⟩
  have HB2 := hid hb2
  clear hb2
  go_wp2_with fail
  refine (unhex_val _ _ _ _ (by simp [ByteArray.size]) H4.out).mono ?_
  rintro e w' ⟨rfl, rfl⟩
  go_wp2_with fail
  go_ret
  exact ⟨rfl, HB1.out.trans (HB2.out.mono HB1.out.size)⟩

set_option maxRecDepth 100000 in
theorem puts_walk (n : Nat) (w : Int) (W : World) (hn : n < 18446744073709551616) :
    Calls Try.prog 3 #[.int .u64 n, .int .i64 w] W fun e w' => e = .returned (.bool true) ∧ Below W.heap.size W w' := by
  obtain ⟨a, b, hr⟩ : ∃ a b, putR n w = (a, b) := ⟨_, _, rfl⟩
  have H1 := hid hr
  clear hr
  go_enter Try.func3, Try.ntmps3
  go_wp2_with fail
  refine (put_val n w _ _ _ hn H1.out).mono ?_
  rintro e w1 ⟨rfl, hb1⟩
  have HB1 := hid hb1
  clear hb1
  go_wp2_with fail
  refine (rput_val n w _ _ _ hn H1.out).mono ?_
  rintro e w2 ⟨rfl, hb2⟩
  have HB2 := hid hb2
  clear hb2
  go_wp2_with fail
  refine (known_any _).mono ?_
  rintro e w3 ⟨rfl, hb3⟩
  have HB3 := hid hb3
  clear hb3
  go_wp2_with fail
  go_ret
  exact ⟨rfl, (HB1.out.trans (HB2.out.mono HB1.out.size)).trans (HB3.out.mono (Nat.le_trans HB1.out.size HB2.out.size))⟩

set_option maxRecDepth 100000 in
theorem gets_walk (s : ByteArray) (at_ w : Int) (W : World) (hs : s.size ≤ 1000000000000000) (ha : -9223372036854775808 ≤ at_ ∧ at_ ≤ 9223372036854775807) :
    Calls Try.prog 4 #[.string s, .int .i64 at_, .int .i64 w] W fun e w' => e = .returned (.bool true) ∧ Below W.heap.size W w' := by
  obtain ⟨a, b, hr⟩ : ∃ a b, getR s at_ w = (a, b) := ⟨_, _, rfl⟩
  have H1 := hid hr
  have HA := hid ha
  clear hr ha
  go_enter Try.func4, Try.ntmps4
  go_wp2_with fail
  refine (get_val s at_ w _ _ _ hs HA.out H1.out).mono ?_
  rintro e w1 ⟨rfl, rfl⟩
  go_wp2_with fail
  refine (rget_val s at_ w _ _ _ hs HA.out H1.out).mono ?_
  rintro e w2 ⟨rfl, rfl⟩
  go_wp2_with fail
  refine (known_any _).mono ?_
  rintro e w3 ⟨rfl, hb3⟩
  have HB3 := hid hb3
  clear hb3
  go_wp2_with fail
  go_ret
  exact ⟨rfl, HB3.out⟩

set_option maxRecDepth 100000 in
theorem digits_walk (n : Nat) (w : Int) (s : ByteArray) (W : World) (hn : n < 18446744073709551616) (hs : s.size ≤ 1000000000000000) :
    Calls Try.prog 5 #[.int .u64 n, .int .i64 w, .string s] W fun e w' => e = .returned (.bool true) ∧ Below W.heap.size W w' := by
  obtain ⟨a, b, hr⟩ : ∃ a b, hexR n w = (a, b) := ⟨_, _, rfl⟩
  obtain ⟨c, d, hr2⟩ : ∃ a b, unhexR s = (a, b) := ⟨_, _, rfl⟩
  have H1 := hid hr
  have H2 := hid hr2
  clear hr hr2
  go_enter Try.func5, Try.ntmps5
  go_wp2_with fail
  refine (hex_val n w _ _ _ hn H1.out).mono ?_
  rintro e w1 ⟨rfl, hb1⟩
  have HB1 := hid hb1
  clear hb1
  go_wp2_with fail
  refine (rhex_val n w _ _ _ hn H1.out).mono ?_
  rintro e w2 ⟨rfl, rfl⟩
  go_wp2_with fail
  refine (unhex_val s _ _ _ hs H2.out).mono ?_
  rintro e w2 ⟨rfl, rfl⟩
  go_wp2_with fail
  refine (runhex_val s _ _ _ hs H2.out).mono ?_
  rintro e w2 ⟨rfl, rfl⟩
  go_wp2_with fail
  refine (known_any _).mono ?_
  rintro e w3 ⟨rfl, hb3⟩
  have HB3 := hid hb3
  clear hb3
  go_wp2_with fail
  go_ret
  exact ⟨rfl, HB1.out.trans (HB3.out.mono HB1.out.size)⟩
end C01
end Go.Proofs.Ytnmfdkkdnaeikaa
