/- Walks of layer 7 (parent): what a text says; no condition. -/
import Derived.Test.YtpamnknfccmgcaaH07
namespace Go.Proofs.Ytpamnknfccmgcaa
open Go.RowKit Go.Peri
namespace C07
open C01 C06
set_option maxRecDepth 100000 in
set_option maxHeartbeats 2000000 in
theorem read_any (s : ByteArray) (hi lo sp f : Nat) (e : Int) (W : World) (hs : s.size ≤ 1000000000000000) (hr : readR s = ((hi, lo, sp, f), e)) :
    Calls Try.prog 48 #[.string s] W fun e' w' => e' = .returned (.tuple #[.agg #[.int .u64 hi, .int .u64 lo, .int .u64 sp, .int .i64 f], .int .i64 e]) ∧ Below W.heap.size W w' := by
  unfold readR at hr
  have HB0 : Hid (Below W.heap.size W (W.alloc (.cells #[.int .u64 0, .int .u64 0, .int .u64 0, .int .i64 0] 44))) := by show Below _ _ _; go_grown
  have HBLK := hid (fun w' (hw : Below (W.alloc (.cells #[.int .u64 0, .int .u64 0, .int .u64 0, .int .i64 0] 44)).heap.size (W.alloc (.cells #[.int .u64 0, .int .u64 0, .int .u64 0, .int .i64 0] 44)) w') => (Blk.new W #[.int .u64 0, .int .u64 0, .int .u64 0, .int .i64 0] 44).later hw)
  have hsW : (W.alloc (.cells #[.int .u64 0, .int .u64 0, .int .u64 0, .int .i64 0] 44)).heap.size = W.heap.size + 1 := by simp
  have HF0 := hid (fun r hr w => formed_any s r w hs hr)
  by_cases hf : formR s = true
  case neg =>
    rw [if_neg hf] at hr
    cases hr
    rw [Bool.not_eq_true] at hf
    have HF := hid (HF0.out _ hf)
    clear HF0 hf
    go_enter Try.func48, Try.ntmps48
    go_wp2_with fail
    refine (HF.out _).mono ?_
    rintro e w1 ⟨rfl, hb1⟩
    have hk : Blk w1 W.heap.size #[.int .u64 0, .int .u64 0, .int .u64 0, .int .i64 0] 44 := HBLK.out _ hb1
    have hlt := hk.lt
    have d0 : w1.cell? ⟨W.heap.size, 0, none⟩ = some (.int .u64 0) := hk.cell 0
    have f0 := hk.free 0
    have d1 : w1.cell? ⟨W.heap.size, 1, none⟩ = some (.int .u64 0) := hk.cell 1
    have f1 := hk.free 1
    have d2 : w1.cell? ⟨W.heap.size, 2, none⟩ = some (.int .u64 0) := hk.cell 2
    have f2 := hk.free 2
    have d3 : w1.cell? ⟨W.heap.size, 3, none⟩ = some (.int .i64 0) := hk.cell 3
    have f3 := hk.free 3
    have HB1 := hid (HB0.out.trans (hb1.mono (by simp)))
    clear hb1 hk
    go_wp2_with fail
    refine bodyPost_ret (by simp [results, Try.results48, go_sem, d0, d1, d2, d3]; try rfl) rfl ?_
    exact ⟨rfl, HB1.out.trans (by have := HB1.out.size; go_grown; all_goals omega)⟩
  have HF := hid (HF0.out _ hf)
  have hsz := formR_size hf
  rw [if_pos hf] at hr
  have x1 : (s.extract 3 35).size = 32 := by rw [ByteArray.size_extract]; omega
  have x2 : (s.extract 36 52).size = 16 := by rw [ByteArray.size_extract]; omega
  have x3 : (s.extract 53 55).size = 2 := by rw [ByteArray.size_extract]; omega
  obtain ⟨hi', lo', e1, q1⟩ : ∃ a b c, ofR (s.extract 3 35) = ((a, b), c) := ⟨_, _, _, rfl⟩
  obtain ⟨sp', e2, q2⟩ : ∃ a c, spanOfR (s.extract 36 52) = (a, c) := ⟨_, _, rfl⟩
  obtain ⟨f', e3, q3⟩ : ∃ a c, unhexR (s.extract 53 55) = (a, c) := ⟨_, _, rfl⟩
  have b3 := unhexR_two _ x3
  have HOF := hid (fun w => of_any (s.extract 3 35) w (by omega))
  have HSP := hid (fun w => spanOf_any (s.extract 36 52) w (by omega))
  have HUN := hid (fun w => unhex_val (s.extract 53 55) w f' e3 (by omega) q3)
  have HP1 := hid (fun w => pof_any s 3 35 w (by omega) (by omega))
  have HP2 := hid (fun w => pof_any s 36 52 w (by omega) (by omega))
  have HP3 := hid (fun w => pof_any s 53 55 w (by omega) (by omega))
  rw [q1] at HOF
  rw [q2] at HSP
  replace HOF : Hid (∀ w, Calls Try.prog 127 #[.string (s.extract 3 35)] w fun e w' => e = .returned (.tuple #[.agg #[.int .u64 hi', .int .u64 lo'], .int .i64 e1]) ∧ Below w.heap.size w w') := HOF
  rw [q3] at b3
  rw [q1, q2, q3] at hr
  have b3' : f' < 256 := b3
  have b4 : IntKind.i64.wrap (f' : Int) = (f' : Int) := IntWalk.i64_in _ (by omega)
  replace hr : (if e1 = 0 ∧ e2 = 0 then ((hi', lo', sp', f'), (0 : Int)) else ((0, 0, 0, 0), 11)) = ((hi, lo, sp, f), e) := hr
  clear q1 q2 q3 b3
  clear HF0 hf
  by_cases g1 : e1 = 0
  case neg =>
    rw [if_neg (fun h => g1 h.1)] at hr
    cases hr
    have g1' : (e1 != 0) = true := by rw [bne, beq_eq_false_iff_ne.2 g1]; rfl
    clear g1
    go_enter Try.func48, Try.ntmps48
    go_wp2_with fail
    refine (HF.out _).mono ?_
    rintro e w1 ⟨rfl, hb1⟩
    have hk1 := HBLK.out _ hb1
    have HB1 := hid (HB0.out.trans (hb1.mono (by simp)))
    have HK1 := hid hk1
    clear hb1 hk1
    go_wp2_with fail
    refine (pieces_any _).mono ?_
    rintro e w2 ⟨rfl, hb2⟩
    have HK2 := hid (HK1.out.later hb2)
    have HB2 := hid (HB1.out.trans (hb2.mono HB1.out.size))
    have HA2 : Hid (Below w2.heap.size w2 (w2.alloc (.cells #[.int .i64 0, .int .i64 2, .int .i64 3, .int .i64 35, .int .i64 36, .int .i64 52, .int .i64 53, .int .i64 55] 141))) := by show Below _ _ _; go_grown
    have HP := hid (Blk.new w2 #[.int .i64 0, .int .i64 2, .int .i64 3, .int .i64 35, .int .i64 36, .int .i64 52, .int .i64 53, .int .i64 55] 141)
    clear hb2
    have hs2 : (w2.alloc (.cells #[.int .i64 0, .int .i64 2, .int .i64 3, .int .i64 35, .int .i64 36, .int .i64 52, .int .i64 53, .int .i64 55] 141)).heap.size = w2.heap.size + 1 := by simp
    go_wp2_with fail
    refine (HP1.out _).mono ?_
    rintro e w3 ⟨rfl, hb3⟩
    have HP3' := hid (HP.out.later hb3)
    have HK3 := hid ((HK2.out.alloc _).later hb3)
    have HB3 := hid (HB2.out.trans ((HA2.out.mono HB2.out.size).trans (hb3.mono (by have := HB2.out.size; omega))))
    clear hb3
    go_wp2_with fail
    refine (HOF.out _).mono ?_
    rintro e w4 ⟨rfl, hb4⟩
    have HP4 := hid (HP3'.out.later hb4)
    have HK4 := hid (HK3.out.later hb4)
    have HB4 := hid (HB3.out.trans (hb4.mono HB3.out.size))
    have p4 : w4.cell? ⟨w2.heap.size, 4, none⟩ = some (.int .i64 36) := HP4.out.cell 4
    have p5 : w4.cell? ⟨w2.heap.size, 5, none⟩ = some (.int .i64 52) := HP4.out.cell 5
    have hl4 := HP4.out.lt
    have HT4 := hid (Blk.new w4 #[.int .u64 hi', .int .u64 lo'] 42)
    have HA4 : Hid (Below w4.heap.size w4 (w4.alloc (.cells #[.int .u64 hi', .int .u64 lo'] 42))) := by show Below _ _ _; go_grown
    have hs4 : (w4.alloc (.cells #[.int .u64 hi', .int .u64 lo'] 42)).heap.size = w4.heap.size + 1 := by simp
    clear hb4
    go_wp2_with fail
    refine (HP2.out _).mono ?_
    rintro e w5 ⟨rfl, hb5⟩
    have HP5 := hid ((HP4.out.alloc _).later hb5)
    have HT5 := hid (HT4.out.later hb5)
    have HK5 := hid ((HK4.out.alloc _).later hb5)
    have HB5 := hid (HB4.out.trans ((HA4.out.mono HB4.out.size).trans (hb5.mono (by have := HB4.out.size; omega))))
    clear hb5
    go_wp2_with fail
    refine (HSP.out _).mono ?_
    rintro e w6 ⟨rfl, rfl⟩
    have hk : Blk w5 W.heap.size #[.int .u64 0, .int .u64 0, .int .u64 0, .int .i64 0] 44 := HK5.out
    have hlt := hk.lt
    have d0 : w5.cell? ⟨W.heap.size, 0, none⟩ = some (.int .u64 0) := hk.cell 0
    have f0 := hk.free 0
    have d1 : w5.cell? ⟨W.heap.size, 1, none⟩ = some (.int .u64 0) := hk.cell 1
    have f1 := hk.free 1
    have d2 : w5.cell? ⟨W.heap.size, 2, none⟩ = some (.int .u64 0) := hk.cell 2
    have f2 := hk.free 2
    have d3 : w5.cell? ⟨W.heap.size, 3, none⟩ = some (.int .i64 0) := hk.cell 3
    have f3 := hk.free 3
    clear hk
    go_wp2_with fail
    refine bodyPost_ret (by simp [results, Try.results48, go_sem, d0, d1, d2, d3]; try rfl) rfl ?_
    exact ⟨rfl, HB5.out.trans (by have := HB5.out.size; go_grown; all_goals omega)⟩
  subst g1
  by_cases g2 : e2 = 0
  case neg =>
    rw [if_neg (fun h => g2 h.2)] at hr
    cases hr
    have g2' : (e2 != 0) = true := by rw [bne, beq_eq_false_iff_ne.2 g2]; rfl
    clear g2
    go_enter Try.func48, Try.ntmps48
    go_wp2_with fail
    refine (HF.out _).mono ?_
    rintro e w1 ⟨rfl, hb1⟩
    have hk1 := HBLK.out _ hb1
    have HB1 := hid (HB0.out.trans (hb1.mono (by simp)))
    have HK1 := hid hk1
    clear hb1 hk1
    go_wp2_with fail
    refine (pieces_any _).mono ?_
    rintro e w2 ⟨rfl, hb2⟩
    have HK2 := hid (HK1.out.later hb2)
    have HB2 := hid (HB1.out.trans (hb2.mono HB1.out.size))
    have HA2 : Hid (Below w2.heap.size w2 (w2.alloc (.cells #[.int .i64 0, .int .i64 2, .int .i64 3, .int .i64 35, .int .i64 36, .int .i64 52, .int .i64 53, .int .i64 55] 141))) := by show Below _ _ _; go_grown
    have HP := hid (Blk.new w2 #[.int .i64 0, .int .i64 2, .int .i64 3, .int .i64 35, .int .i64 36, .int .i64 52, .int .i64 53, .int .i64 55] 141)
    clear hb2
    have hs2 : (w2.alloc (.cells #[.int .i64 0, .int .i64 2, .int .i64 3, .int .i64 35, .int .i64 36, .int .i64 52, .int .i64 53, .int .i64 55] 141)).heap.size = w2.heap.size + 1 := by simp
    go_wp2_with fail
    refine (HP1.out _).mono ?_
    rintro e w3 ⟨rfl, hb3⟩
    have HP3' := hid (HP.out.later hb3)
    have HK3 := hid ((HK2.out.alloc _).later hb3)
    have HB3 := hid (HB2.out.trans ((HA2.out.mono HB2.out.size).trans (hb3.mono (by have := HB2.out.size; omega))))
    clear hb3
    go_wp2_with fail
    refine (HOF.out _).mono ?_
    rintro e w4 ⟨rfl, hb4⟩
    have HP4 := hid (HP3'.out.later hb4)
    have HK4 := hid (HK3.out.later hb4)
    have HB4 := hid (HB3.out.trans (hb4.mono HB3.out.size))
    have p4 : w4.cell? ⟨w2.heap.size, 4, none⟩ = some (.int .i64 36) := HP4.out.cell 4
    have p5 : w4.cell? ⟨w2.heap.size, 5, none⟩ = some (.int .i64 52) := HP4.out.cell 5
    have hl4 := HP4.out.lt
    have HT4 := hid (Blk.new w4 #[.int .u64 hi', .int .u64 lo'] 42)
    have HA4 : Hid (Below w4.heap.size w4 (w4.alloc (.cells #[.int .u64 hi', .int .u64 lo'] 42))) := by show Below _ _ _; go_grown
    have hs4 : (w4.alloc (.cells #[.int .u64 hi', .int .u64 lo'] 42)).heap.size = w4.heap.size + 1 := by simp
    clear hb4
    go_wp2_with fail
    refine (HP2.out _).mono ?_
    rintro e w5 ⟨rfl, hb5⟩
    have HP5 := hid ((HP4.out.alloc _).later hb5)
    have HT5 := hid (HT4.out.later hb5)
    have HK5 := hid ((HK4.out.alloc _).later hb5)
    have HB5 := hid (HB4.out.trans ((HA4.out.mono HB4.out.size).trans (hb5.mono (by have := HB4.out.size; omega))))
    clear hb5
    go_wp2_with fail
    refine (HSP.out _).mono ?_
    rintro e w6 ⟨rfl, rfl⟩
    have hk : Blk w5 W.heap.size #[.int .u64 0, .int .u64 0, .int .u64 0, .int .i64 0] 44 := HK5.out
    have hlt := hk.lt
    have d0 : w5.cell? ⟨W.heap.size, 0, none⟩ = some (.int .u64 0) := hk.cell 0
    have f0 := hk.free 0
    have d1 : w5.cell? ⟨W.heap.size, 1, none⟩ = some (.int .u64 0) := hk.cell 1
    have f1 := hk.free 1
    have d2 : w5.cell? ⟨W.heap.size, 2, none⟩ = some (.int .u64 0) := hk.cell 2
    have f2 := hk.free 2
    have d3 : w5.cell? ⟨W.heap.size, 3, none⟩ = some (.int .i64 0) := hk.cell 3
    have f3 := hk.free 3
    clear hk
    go_wp2_with fail
    refine bodyPost_ret (by simp [results, Try.results48, go_sem, d0, d1, d2, d3]; try rfl) rfl ?_
    exact ⟨rfl, HB5.out.trans (by have := HB5.out.size; go_grown; all_goals omega)⟩
  subst g2
  rw [if_pos ⟨rfl, rfl⟩] at hr
  cases hr
  go_enter Try.func48, Try.ntmps48
  go_wp2_with fail
  refine (HF.out _).mono ?_
  rintro e w1 ⟨rfl, hb1⟩
  have hk1 := HBLK.out _ hb1
  have HB1 := hid (HB0.out.trans (hb1.mono (by simp)))
  have HK1 := hid hk1
  clear hb1 hk1
  go_wp2_with fail
  refine (pieces_any _).mono ?_
  rintro e w2 ⟨rfl, hb2⟩
  have HK2 := hid (HK1.out.later hb2)
  have HB2 := hid (HB1.out.trans (hb2.mono HB1.out.size))
  have HA2 : Hid (Below w2.heap.size w2 (w2.alloc (.cells #[.int .i64 0, .int .i64 2, .int .i64 3, .int .i64 35, .int .i64 36, .int .i64 52, .int .i64 53, .int .i64 55] 141))) := by show Below _ _ _; go_grown
  have HP := hid (Blk.new w2 #[.int .i64 0, .int .i64 2, .int .i64 3, .int .i64 35, .int .i64 36, .int .i64 52, .int .i64 53, .int .i64 55] 141)
  clear hb2
  have hs2 : (w2.alloc (.cells #[.int .i64 0, .int .i64 2, .int .i64 3, .int .i64 35, .int .i64 36, .int .i64 52, .int .i64 53, .int .i64 55] 141)).heap.size = w2.heap.size + 1 := by simp
  go_wp2_with fail
  refine (HP1.out _).mono ?_
  rintro e w3 ⟨rfl, hb3⟩
  have HP3' := hid (HP.out.later hb3)
  have HK3 := hid ((HK2.out.alloc _).later hb3)
  have HB3 := hid (HB2.out.trans ((HA2.out.mono HB2.out.size).trans (hb3.mono (by have := HB2.out.size; omega))))
  clear hb3
  go_wp2_with fail
  refine (HOF.out _).mono ?_
  rintro e w4 ⟨rfl, hb4⟩
  have HP4 := hid (HP3'.out.later hb4)
  have HK4 := hid (HK3.out.later hb4)
  have HB4 := hid (HB3.out.trans (hb4.mono HB3.out.size))
  have p4 : w4.cell? ⟨w2.heap.size, 4, none⟩ = some (.int .i64 36) := HP4.out.cell 4
  have p5 : w4.cell? ⟨w2.heap.size, 5, none⟩ = some (.int .i64 52) := HP4.out.cell 5
  have hl4 := HP4.out.lt
  have HT4 := hid (Blk.new w4 #[.int .u64 hi, .int .u64 lo] 42)
  have HA4 : Hid (Below w4.heap.size w4 (w4.alloc (.cells #[.int .u64 hi, .int .u64 lo] 42))) := by show Below _ _ _; go_grown
  have hs4 : (w4.alloc (.cells #[.int .u64 hi, .int .u64 lo] 42)).heap.size = w4.heap.size + 1 := by simp
  clear hb4
  go_wp2_with fail
  refine (HP2.out _).mono ?_
  rintro e w5 ⟨rfl, hb5⟩
  have HP5 := hid ((HP4.out.alloc _).later hb5)
  have HT5 := hid (HT4.out.later hb5)
  have HK5 := hid ((HK4.out.alloc _).later hb5)
  have HB5 := hid (HB4.out.trans ((HA4.out.mono HB4.out.size).trans (hb5.mono (by have := HB4.out.size; omega))))
  clear hb5
  go_wp2_with fail
  refine (HSP.out _).mono ?_
  rintro e w6 ⟨rfl, rfl⟩
  have p6 : w5.cell? ⟨w2.heap.size, 6, none⟩ = some (.int .i64 53) := HP5.out.cell 6
  have p7 : w5.cell? ⟨w2.heap.size, 7, none⟩ = some (.int .i64 55) := HP5.out.cell 7
  have hl5 := HP5.out.lt
  go_wp2_with fail
  refine (HP3.out _).mono ?_
  rintro e w7 ⟨rfl, hb7⟩
  have HT7 := hid (HT5.out.later hb7)
  have HK7 := hid (HK5.out.later hb7)
  have HB7 := hid (HB5.out.trans (hb7.mono HB5.out.size))
  clear hb7
  go_wp2_with fail
  refine (HUN.out _).mono ?_
  rintro e w8 ⟨rfl, rfl⟩
  have t0 : w7.cell? ⟨w4.heap.size, 0, none⟩ = some (.int .u64 hi) := HT7.out.cell 0
  have t1 : w7.cell? ⟨w4.heap.size, 1, none⟩ = some (.int .u64 lo) := HT7.out.cell 1
  have hl7 := HT7.out.lt
  have hk : Blk w7 W.heap.size #[.int .u64 0, .int .u64 0, .int .u64 0, .int .i64 0] 44 := HK7.out
  have hlt := hk.lt
  have d0 : w7.cell? ⟨W.heap.size, 0, none⟩ = some (.int .u64 0) := hk.cell 0
  have f0 := hk.free 0
  have d1 : w7.cell? ⟨W.heap.size, 1, none⟩ = some (.int .u64 0) := hk.cell 1
  have f1 := hk.free 1
  have d2 : w7.cell? ⟨W.heap.size, 2, none⟩ = some (.int .u64 0) := hk.cell 2
  have f2 := hk.free 2
  have d3 : w7.cell? ⟨W.heap.size, 3, none⟩ = some (.int .i64 0) := hk.cell 3
  have f3 := hk.free 3
  clear hk
  go_wp2_with fail
  refine bodyPost_ret (by simp [results, Try.results48, go_sem, d0, d1, d2, d3]; try rfl) rfl ?_
  exact ⟨rfl, HB7.out.trans (by have := HB7.out.size; go_grown; all_goals omega)⟩
end C07
end Go.Proofs.Ytpamnknfccmgcaa
