/- Walks of layer 7 (parent): the reference's texts; whether it is sampled; a child's; no condition. -/
import Derived.Test.YtpamnknfccmgcaaC07
namespace Go.Proofs.Ytpamnknfccmgcaa
open Go.RowKit Go.Peri
namespace C07
open C01 C06
theorem rzero_val (hi lo : Nat) (r : Bool) (W : World) (hr : zeroR hi lo = r) :
    Calls Try.prog 139 #[.agg #[.int .u64 hi, .int .u64 lo]] W fun e w' => e = .returned (.bool r) ∧ Below W.heap.size W w' := by
  have := rzero_any hi lo W; rw [hr] at this; exact this

set_option maxRecDepth 100000 in
set_option maxHeartbeats 1000000 in
theorem rwrite_any (hi lo sp : Nat) (fl : Int) (a : ByteArray) (e : Int) (W : World) (h1 : hi < 18446744073709551616) (h2 : lo < 18446744073709551616) (h3 : sp < 18446744073709551616) (hr : writeR hi lo sp fl = (a, e)) :
    Calls Try.prog 51 #[.agg #[.int .u64 hi, .int .u64 lo, .int .u64 sp, .int .i64 fl]] W fun e' w' => e' = .returned (.tuple #[.string a, .int .i64 e]) ∧ Below W.heap.size W w' := by
  unfold writeR at hr
  have HB0 : Hid (Below W.heap.size W (W.alloc (.cells #[.int .u64 hi, .int .u64 lo, .int .u64 sp, .int .i64 fl] 44))) := by show Below _ _ _; go_grown
  have HZ := hid (fun (r : Bool) (hr : zeroR hi lo = r) (w : World) => rzero_val hi lo r w hr)
  by_cases hz : hi = 0 ∧ lo = 0
  · rw [if_pos (.inl hz)] at hr
    cases hr
    have hzr : zeroR hi lo = true := by rw [zeroR_iff]; exact decide_eq_true hz
    have HZ2 := hid (HZ.out true hzr)
    clear HZ hzr hz
    go_enter Try.func51, Try.ntmps51
    go_wp2_with fail
    refine (HZ2.out _).mono ?_
    rintro e w1 ⟨rfl, hb1⟩
    have HB1 := hid (HB0.out.trans (hb1.mono (by simp)))
    clear hb1
    go_wp2_with fail
    go_ret2
    exact ⟨rfl, HB1.out⟩
  have hzr : zeroR hi lo = false := by rw [zeroR_iff]; exact decide_eq_false hz
  have HZ2 := hid (HZ.out false hzr)
  have hblk : ∀ w', Below (W.alloc (.cells #[.int .u64 hi, .int .u64 lo, .int .u64 sp, .int .i64 fl] 44)).heap.size (W.alloc (.cells #[.int .u64 hi, .int .u64 lo, .int .u64 sp, .int .i64 fl] 44)) w' → Blk w' W.heap.size #[.int .u64 hi, .int .u64 lo, .int .u64 sp, .int .i64 fl] 44 := fun w' hw => (Blk.new W _ _).later hw
  have HBLK := hid hblk
  clear HZ hzr hblk
  by_cases hs : sp = 0
  · rw [if_pos (.inr hs)] at hr
    cases hr
    subst hs
    go_enter Try.func51, Try.ntmps51
    go_wp2_with fail
    refine (HZ2.out _).mono ?_
    rintro e w1 ⟨rfl, hb1⟩
    have c2 : w1.cell? ⟨W.heap.size, 2, none⟩ = some (.int .u64 0) := (HBLK.out _ hb1).cell 2
    have HB1 := hid (HB0.out.trans (hb1.mono (by simp)))
    clear hb1
    go_wp2_with fail
    go_ret2
    exact ⟨rfl, HB1.out⟩
  rw [if_neg (by rintro (h | h); exact hz h; exact hs h)] at hr
  have hs1 : ((sp : Int) == 0) = false := by rw [beq_eq_false_iff_ne]; omega
  clear hz hs
  by_cases hf : fl < 0 ∨ 255 < fl
  · rw [if_pos hf] at hr
    cases hr
    by_cases hf1 : fl < 0
    · clear hf
      go_enter Try.func51, Try.ntmps51
      go_wp2_with fail
      refine (HZ2.out _).mono ?_
      rintro e w1 ⟨rfl, hb1⟩
      have c2 : w1.cell? ⟨W.heap.size, 2, none⟩ = some (.int .u64 sp) := (HBLK.out _ hb1).cell 2
      have c3 : w1.cell? ⟨W.heap.size, 3, none⟩ = some (.int .i64 fl) := (HBLK.out _ hb1).cell 3
      have HB1 := hid (HB0.out.trans (hb1.mono (by simp)))
      clear hb1
      go_wp2_with fail
      go_ret2
      exact ⟨rfl, HB1.out⟩
    · have hf2 : 255 < fl := by omega
      clear hf
      go_enter Try.func51, Try.ntmps51
      go_wp2_with fail
      refine (HZ2.out _).mono ?_
      rintro e w1 ⟨rfl, hb1⟩
      have c2 : w1.cell? ⟨W.heap.size, 2, none⟩ = some (.int .u64 sp) := (HBLK.out _ hb1).cell 2
      have c3 : w1.cell? ⟨W.heap.size, 3, none⟩ = some (.int .i64 fl) := (HBLK.out _ hb1).cell 3
      have HB1 := hid (HB0.out.trans (hb1.mono (by simp)))
      clear hb1
      go_wp2_with fail
      go_ret2
      exact ⟨rfl, HB1.out⟩
  rw [if_neg hf] at hr
  obtain ⟨f, rfl⟩ := Int.eq_ofNat_of_zero_le (show 0 ≤ fl by omega)
  rw [Int.toNat_natCast] at hr
  have hf1 : ¬ (f : Int) < 0 := by omega
  have hf2 : ¬ (255 : Int) < (f : Int) := by omega
  have hf3 : f ≤ 255 := by omega
  have HX := hid (fun w => rhex_val f 2 w (fx f) 0 (by omega) (hex_fx f (by omega)))
  have HT := hid (fun w => rtext_any hi lo w h1 h2)
  have HS := hid (fun w => rspanText sp w h3)
  have s1 : (txt hi ++ txt lo).size = 32 := by rw [ByteArray.size_append, txt_size, txt_size]
  have s2 := txt_size sp
  have s3 := fx_size f
  unfold whole at hr
  generalize txt hi ++ txt lo = tx at hr HT s1
  generalize txt sp = ts at hr HS s2
  generalize fx f = tf at hr HX s3
  have HR := hid hr
  clear hf hr
  go_enter Try.func51, Try.ntmps51
  go_wp2_with fail
  refine (HZ2.out _).mono ?_
  rintro e w1 ⟨rfl, hb1⟩
  have hbk := HBLK.out _ hb1
  have c2 : w1.cell? ⟨W.heap.size, 2, none⟩ = some (.int .u64 sp) := hbk.cell 2
  have c3 : w1.cell? ⟨W.heap.size, 3, none⟩ = some (.int .i64 f) := hbk.cell 3
  have d0 : w1.cell? ⟨W.heap.size, 0, none⟩ = some (.int .u64 hi) := hbk.cell 0
  have d1 : w1.cell? ⟨W.heap.size, 1, none⟩ = some (.int .u64 lo) := hbk.cell 1
  have hlt := hbk.lt
  have HB1 := hid (HB0.out.trans (hb1.mono (by simp)))
  clear hb1 hbk
  go_wp2_with fail
  refine (HX.out _).mono ?_
  rintro e w' ⟨rfl, rfl⟩
  go_wp2_with fail
  refine wp_region_bw (by kernel_rfl) (by kernel_rfl) ?_
  repeat (go_big_quiet_step ((first | (go_at_call 141; exact bw_call (HT.out _)) | (go_at_call 142; exact bw_call (HS.out _)))))
  refine wpQuiet_nil ?_
  rintro _ ⟨⟨w3, hb3⟩, rfl⟩
  have HB3 := hid (HB1.out.trans (hb3.mono HB1.out.size))
  clear hb3
  go_wp2_with fail
  go_ret2
  refine ⟨?_, HB3.out⟩
  cases HR.out
  rfl

theorem i64_and1 (n : Int) : bits .and .i64 n 1 = n % 2 := by
  have h1 : (BitVec.ofInt 64 1).toNat = 2 ^ 1 - 1 := by decide
  have key : (BitVec.ofInt 64 n &&& BitVec.ofInt 64 1).toNat = (n % ((2 ^ 64 : Nat) : Int)).toNat % 2 ^ 1 := by
    rw [BitVec.toNat_and, BitVec.toNat_ofInt, h1, Nat.and_two_pow_sub_one_eq_mod]
  show IntKind.i64.wrap ((BitVec.ofInt 64 n &&& BitVec.ofInt 64 1).toNat : Nat) = n % 2
  rw [key, IntKind.wrap_i64]
  omega
def sampR (fl : Int) : Bool := decide (fl % 2 = 1)
set_option maxRecDepth 100000 in
theorem sampled_any (hi lo sp : Nat) (fl : Int) (r : Bool) (W : World) (hr : sampR fl = r) : Calls Try.prog 52 #[.agg #[.int .u64 hi, .int .u64 lo, .int .u64 sp, .int .i64 fl]] W fun e w' => e = .returned (.bool r) ∧ Below W.heap.size W w' := by
  have h1 : bits .and .i64 fl 1 = fl % 2 := i64_and1 fl
  have h2 : (fl % 2 == 1) = r := by
    rw [← hr]; unfold sampR
    by_cases h : fl % 2 = 1 <;> simp [h]
  clear hr
  go_enter Try.func52, Try.ntmps52
  go_wp2
  go_ret
  exact ⟨rfl, by go_grown⟩
theorem tmod2 (n : Int) : (n.tmod 2 = 0 ↔ n % 2 = 0) ∧ -1 ≤ n.tmod 2 ∧ n.tmod 2 ≤ 1 := by
  by_cases h : 0 ≤ n
  · rw [Int.tmod_eq_emod_of_nonneg h]; omega
  · obtain ⟨m, rfl⟩ : ∃ m : Int, n = -m := ⟨-n, by omega⟩
    rw [Int.neg_tmod, Int.tmod_eq_emod_of_nonneg (by omega)]; omega
set_option maxRecDepth 100000 in
theorem rsampled_any (hi lo sp : Nat) (fl : Int) (r : Bool) (W : World) (hr : sampR fl = r) : Calls Try.prog 53 #[.agg #[.int .u64 hi, .int .u64 lo, .int .u64 sp, .int .i64 fl]] W fun e w' => e = .returned (.bool r) ∧ Below W.heap.size W w' := by
  have h2 : (fl.tmod 2 != 0) = r := by
    rw [← hr]; unfold sampR
    have := tmod2 fl
    by_cases h : fl % 2 = 1
    · have h3 : ¬ fl.tmod 2 = 0 := by omega
      simp [h, h3]
    · have h3 : fl.tmod 2 = 0 := by omega
      simp [h, h3]
  have h3 : IntKind.i64.wrap (fl.tmod 2) = fl.tmod 2 := IntWalk.i64_in _ (by have := tmod2 fl; omega)
  clear hr
  go_enter Try.func53, Try.ntmps53
  go_wp2
  go_ret
  exact ⟨rfl, by go_grown⟩
set_option maxRecDepth 100000 in
theorem child_any (hi lo sp n : Nat) (fl : Int) (W : World) : Calls Try.prog 54 #[.agg #[.int .u64 hi, .int .u64 lo, .int .u64 sp, .int .i64 fl], .int .u64 n] W fun e w' => e = .returned (.agg #[.int .u64 hi, .int .u64 lo, .int .u64 n, .int .i64 fl]) ∧ Below W.heap.size W w' := by
  go_enter Try.func54, Try.ntmps54
  go_wp2_with fail
  refine bodyPost_ret (by simp [results, Try.results54, go_sem]; try rfl) rfl ?_
  exact ⟨rfl, by go_grown⟩
set_option maxRecDepth 100000 in
theorem rchild_any (hi lo sp n : Nat) (fl : Int) (W : World) : Calls Try.prog 55 #[.agg #[.int .u64 hi, .int .u64 lo, .int .u64 sp, .int .i64 fl], .int .u64 n] W fun e w' => e = .returned (.agg #[.int .u64 hi, .int .u64 lo, .int .u64 n, .int .i64 fl]) ∧ Below W.heap.size W w' := by
  go_enter Try.func55, Try.ntmps55
  go_wp2_with fail
  refine bodyPost_ret (by simp [results, Try.results55, go_sem]; try rfl) rfl ?_
  exact ⟨rfl, by go_grown⟩
end C07
end Go.Proofs.Ytpamnknfccmgcaa
