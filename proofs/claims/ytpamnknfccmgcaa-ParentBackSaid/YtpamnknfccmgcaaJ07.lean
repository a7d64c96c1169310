/- Walks of layer 7 (parent): what must come of fixed calls; the law of readings; no condition. -/
import Derived.Test.YtpamnknfccmgcaaI07
namespace Go.Proofs.Ytpamnknfccmgcaa
open Go.RowKit Go.Peri
namespace C07
open C01 C06
theorem eqP (a b c d a' b' c' d' : Int) (w : World) : (Op.equalIn 10000 44 (.agg #[.int .u64 a, .int .u64 b, .int .u64 c, .int .i64 d]) (.agg #[.int .u64 a', .int .u64 b', .int .u64 c', .int .i64 d'])).run Try.prog w = .ok (a == a' && b == b' && c == c' && d == d') w := by
  have u3 := Try.underlying40
  have a3 := Try.isAgg40
  have z3 := Try.sizeOf40
  have u4 := Try.underlying3
  have a4 := Try.isAgg3
  have z4 := Try.sizeOf3
  have u5 := Try.underlying42
  have a5 := Try.isAgg42
  have z5 := Try.sizeOf42
  rw [show (10000 : Nat) = 9998 + 1 + 1 from rfl, run_equalIn_struct w 9999 44 _ _ (by kernel_rfl) (by kernel_rfl)]
  have ht : ∀ w, (Op.equalIn 9999 42 (.agg #[.int .u64 a, .int .u64 b]) (.agg #[.int .u64 a', .int .u64 b'])).run Try.prog w = .ok (a == a' && b == b') w := by
    intro w
    rw [show (9999 : Nat) = 9998 + 1 from rfl, run_equalIn_struct w 9998 42 _ _ (by kernel_rfl) (by kernel_rfl)]
    simp only [Program.fieldsOf, Try.underlying42, Op.eqFields]
    go_simp
    by_cases h1 : a = a' <;> by_cases h2 : b = b' <;> simp [h1, h2]
  simp only [Program.fieldsOf, Try.underlying44, Op.eqFields]
  go_simp
  by_cases h1 : a = a' <;> by_cases h2 : b = b' <;> by_cases h3 : c = c' <;> by_cases h4 : d = d' <;> simp [h1, h2, h3, h4]
def kS : ByteArray := ⟨#[48, 48, 45, 48, 48, 48, 48, 48, 48, 48, 48, 48, 48, 48, 48, 48, 48, 48, 49, 48, 48, 48, 48, 48, 48, 48, 48, 48, 48, 48, 48, 48, 48, 48, 50, 45, 48, 48, 48, 48, 48, 48, 48, 48, 48, 48, 48, 48, 48, 48, 48, 51, 45, 48, 49]⟩
theorem kRead : readR kS = ((1, 2, 3, 1), 0) := by kernel_rfl
theorem kWrite : writeR 1 2 3 1 = (kS, 0) := by kernel_rfl
set_option maxRecDepth 100000 in
set_option maxHeartbeats 2000000 in
theorem known_any (W : World) : Calls Try.prog 47 #[] W fun e w' => e = .returned (.bool true) ∧ Below W.heap.size W w' := by
  have HRd : Hid (∀ w, Calls Try.prog 48 #[.string kS] w fun e w' => e = .returned (.tuple #[.agg #[.int .u64 1, .int .u64 2, .int .u64 3, .int .i64 1], .int .i64 0]) ∧ Below w.heap.size w w') := hid (fun w => read_any kS 1 2 3 1 0 w (by decide) kRead)
  have HWr : Hid (∀ w, Calls Try.prog 50 #[.agg #[.int .u64 1, .int .u64 2, .int .u64 3, .int .i64 1]] w fun e w' => e = .returned (.tuple #[.string kS, .int .i64 0]) ∧ Below w.heap.size w w') := hid (fun w => write_any 1 2 3 1 kS 0 w (by decide) (by decide) (by decide) kWrite)
  have HS1 : Hid (∀ w, Calls Try.prog 52 #[.agg #[.int .u64 1, .int .u64 2, .int .u64 3, .int .i64 1]] w fun e w' => e = .returned (.bool true) ∧ Below w.heap.size w w') := hid (fun w => sampled_any 1 2 3 1 true w (by decide))
  have HS2 : Hid (∀ w, Calls Try.prog 52 #[.agg #[.int .u64 0, .int .u64 0, .int .u64 0, .int .i64 2]] w fun e w' => e = .returned (.bool false) ∧ Below w.heap.size w w') := hid (fun w => sampled_any 0 0 0 2 false w (by decide))
  have HC : Hid (∀ w, Calls Try.prog 54 #[.agg #[.int .u64 1, .int .u64 2, .int .u64 3, .int .i64 1], .int .u64 9] w fun e w' => e = .returned (.agg #[.int .u64 1, .int .u64 2, .int .u64 9, .int .i64 1]) ∧ Below w.heap.size w w') := hid (fun w => child_any 1 2 3 9 1 w)
  have q := eqP
  have HP0 := hid (Blk.new W #[.int .u64 1, .int .u64 2, .int .u64 3, .int .i64 1] 44)
  have HB0 : Hid (Below W.heap.size W (W.alloc (.cells #[.int .u64 1, .int .u64 2, .int .u64 3, .int .i64 1] 44))) := by show Below _ _ _; go_grown
  unfold kS at HRd HWr
  go_enter Try.func47, Try.ntmps47
  go_wp2_with fail
  refine (HRd.out _).mono ?_
  rintro e w1 ⟨rfl, hb1⟩
  have HP1 := hid (HP0.out.later hb1)
  have c0 : w1.cell? ⟨W.heap.size, 0, none⟩ = some (.int .u64 1) := HP1.out.cell 0
  have c1 : w1.cell? ⟨W.heap.size, 1, none⟩ = some (.int .u64 2) := HP1.out.cell 1
  have c2 : w1.cell? ⟨W.heap.size, 2, none⟩ = some (.int .u64 3) := HP1.out.cell 2
  have c3 : w1.cell? ⟨W.heap.size, 3, none⟩ = some (.int .i64 1) := HP1.out.cell 3
  have hl1 := HP1.out.lt
  have HB1 := hid (HB0.out.trans (hb1.mono (by simp)))
  have HA1 := hid (Blk.new w1 #[.int .u64 1, .int .u64 2, .int .u64 3, .int .i64 1] 44)
  have HN1 : Hid (Below W.heap.size W (w1.alloc (.cells #[.int .u64 1, .int .u64 2, .int .u64 3, .int .i64 1] 44))) := hid (HB1.out.trans (by have := HB1.out.size; go_grown; all_goals omega))
  clear hb1
  go_wp2_with fail
  refine (HWr.out _).mono ?_
  rintro e w2 ⟨rfl, hb2⟩
  have HP2 := hid ((HP1.out.alloc _).later hb2)
  have HA2 := hid (HA1.out.later hb2)
  have HB2 := hid (HN1.out.trans (hb2.mono HN1.out.size))
  have d0 : w2.cell? ⟨W.heap.size, 0, none⟩ = some (.int .u64 1) := HP2.out.cell 0
  have d1 : w2.cell? ⟨W.heap.size, 1, none⟩ = some (.int .u64 2) := HP2.out.cell 1
  have d2 : w2.cell? ⟨W.heap.size, 2, none⟩ = some (.int .u64 3) := HP2.out.cell 2
  have d3 : w2.cell? ⟨W.heap.size, 3, none⟩ = some (.int .i64 1) := HP2.out.cell 3
  have a0 : w2.cell? ⟨w1.heap.size, 0, none⟩ = some (.int .u64 1) := HA2.out.cell 0
  have a1 : w2.cell? ⟨w1.heap.size, 1, none⟩ = some (.int .u64 2) := HA2.out.cell 1
  have a2 : w2.cell? ⟨w1.heap.size, 2, none⟩ = some (.int .u64 3) := HA2.out.cell 2
  have a3 : w2.cell? ⟨w1.heap.size, 3, none⟩ = some (.int .i64 1) := HA2.out.cell 3
  have hl2 := HP2.out.lt
  have hl3 := HA2.out.lt
  clear hb2
  go_wp2_with fail
  refine (HS1.out _).mono ?_
  rintro e w3 ⟨rfl, hb3⟩
  have HB3 := hid (HB2.out.trans (hb3.mono HB2.out.size))
  have HP3 := hid (HP2.out.later hb3)
  clear hb3
  go_wp2_with fail
  refine (HS2.out _).mono ?_
  rintro e w4 ⟨rfl, hb4⟩
  have HB4 := hid (HB3.out.trans (hb4.mono HB3.out.size))
  have HP4 := hid (HP3.out.later hb4)
  have g0 : w4.cell? ⟨W.heap.size, 0, none⟩ = some (.int .u64 1) := HP4.out.cell 0
  have g1 : w4.cell? ⟨W.heap.size, 1, none⟩ = some (.int .u64 2) := HP4.out.cell 1
  have g2 : w4.cell? ⟨W.heap.size, 2, none⟩ = some (.int .u64 3) := HP4.out.cell 2
  have g3 : w4.cell? ⟨W.heap.size, 3, none⟩ = some (.int .i64 1) := HP4.out.cell 3
  have hl4 := HP4.out.lt
  clear hb4
  go_wp2_with fail
  refine (HC.out _).mono ?_
  rintro e w5 ⟨rfl, hb5⟩
  have HB5 := hid (HB4.out.trans (hb5.mono HB4.out.size))
  clear hb5
  have hfld : (Instr.field 44 (.agg #[.int .u64 1, .int .u64 2, .int .u64 9, .int .i64 1]) 1).run Try.prog w5 = .ok (.int .u64 9) w5 := by (show _ = _); kernel_rfl
  go_wp2_with fail
  go_ret
  exact ⟨rfl, HB5.out⟩

set_option maxRecDepth 100000 in
set_option maxHeartbeats 2000000 in
theorem reads_walk (s : ByteArray) (W : World) (hs : s.size ≤ 1000000000000000) :
    Calls Try.prog 6 #[.string s] W fun e w' => e = .returned (.bool true) ∧ Below W.heap.size W w' := by
  by_cases h5 : 500 < s.size
  · go_enter Try.func6, Try.ntmps6
    go_wp2_with fail
    refine (known_any _).mono ?_
    rintro e w1 ⟨rfl, hb1⟩
    have HB1 := hid hb1
    clear hb1
    go_wp2_with fail
    go_ret
    exact ⟨rfl, HB1.out⟩
  obtain ⟨hi, lo, sp, f, er, hr⟩ : ∃ a b c d e, readR s = ((a, b, c, d), e) := ⟨_, _, _, _, _, rfl⟩
  have HR1 := hid (fun w => read_any s hi lo sp f er w hs hr)
  have HR2 := hid (fun w => rread_any s hi lo sp f er w hs hr)
  have q := eqP
  clear hr
  go_enter Try.func6, Try.ntmps6
  go_wp2_with fail
  refine (HR1.out _).mono ?_
  rintro e w1 ⟨rfl, hb1⟩
  have HB1 := hid hb1
  have HA1 := hid (Blk.new w1 #[.int .u64 hi, .int .u64 lo, .int .u64 sp, .int .i64 f] 44)
  have HN1 : Hid (Below W.heap.size W (w1.alloc (.cells #[.int .u64 hi, .int .u64 lo, .int .u64 sp, .int .i64 f] 44))) := hid (HB1.out.trans (by have := HB1.out.size; go_grown; all_goals omega))
  clear hb1
  go_wp2_with fail
  refine (HR2.out _).mono ?_
  rintro e w2 ⟨rfl, hb2⟩
  have HA2 := hid (HA1.out.later hb2)
  have HB2 := hid (HN1.out.trans (hb2.mono HN1.out.size))
  have HN2 : Hid (Below W.heap.size W (w2.alloc (.cells #[.int .u64 hi, .int .u64 lo, .int .u64 sp, .int .i64 f] 44))) := hid (HB2.out.trans (by have := HB2.out.size; go_grown; all_goals omega))
  have a0 : w2.cell? ⟨w1.heap.size, 0, none⟩ = some (.int .u64 hi) := HA2.out.cell 0
  have a1 : w2.cell? ⟨w1.heap.size, 1, none⟩ = some (.int .u64 lo) := HA2.out.cell 1
  have a2 : w2.cell? ⟨w1.heap.size, 2, none⟩ = some (.int .u64 sp) := HA2.out.cell 2
  have a3 : w2.cell? ⟨w1.heap.size, 3, none⟩ = some (.int .i64 f) := HA2.out.cell 3
  have hl3 := HA2.out.lt
  clear hb2
  go_wp2_with fail
  refine (known_any _).mono ?_
  rintro e w3 ⟨rfl, hb3⟩
  have HB3 := hid (HN2.out.trans (hb3.mono HN2.out.size))
  clear hb3
  go_wp2_with fail
  go_ret
  exact ⟨rfl, HB3.out⟩
end C07
end Go.Proofs.Ytpamnknfccmgcaa
