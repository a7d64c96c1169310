/- Walks of layer 7 (parent): what a text says; no condition. -/
import Derived.Test.YtpamnknfccmgcaaG07
namespace Go.Proofs.Ytpamnknfccmgcaa
open Go.RowKit Go.Peri
namespace C07
open C01 C06
def readR (s : ByteArray) : (Nat × Nat × Nat × Nat) × Int :=
  if formR s = true then
    (if (ofR (s.extract 3 35)).2 = 0 ∧ (spanOfR (s.extract 36 52)).2 = 0 then (((ofR (s.extract 3 35)).1.1, (ofR (s.extract 3 35)).1.2, (spanOfR (s.extract 36 52)).1, (unhexR (s.extract 53 55)).1), 0)
     else ((0, 0, 0, 0), 11))
  else ((0, 0, 0, 0), 3)
theorem formR_size {s : ByteArray} (h : formR s = true) : 55 ≤ s.size := by
  unfold formR at h
  rw [Bool.and_eq_true] at h
  exact of_decide_eq_true h.1
theorem unhexR_pow (s : ByteArray) (k : Nat) (h : s.size ≤ k) : (unhexR s).1 < 16 ^ k := by
  unfold unhexR
  split
  · rename_i g
    exact Oct.val_bound 16 _ g.2.2 k (by decide) (by have := hvs_len s s.size; omega)
  · exact Nat.pow_pos (by decide)
theorem unhexR_two (s : ByteArray) (h : s.size = 2) : (unhexR s).1 < 256 := unhexR_pow s 2 (by omega)
set_option maxRecDepth 100000 in
theorem pof_any (s : ByteArray) (a b : Nat) (W : World) (h1 : a ≤ b) (h2 : b ≤ s.size) :
    Calls Try.prog 128 #[.agg #[.int .i64 a, .int .i64 b], .string s] W fun e w' => e = .returned (.string (s.extract a b)) ∧ Below W.heap.size W w' := by
  have t1 : (0 : Int) ≤ (a : Int) := by omega
  have t2 : (a : Int) ≤ (b : Int) := by omega
  have t3 : (b : Int) ≤ (s.size : Int) := by omega
  go_enter Try.func128, Try.ntmps128
  go_wp2_with fail
  go_ret
  exact ⟨rfl, by go_grown⟩

set_option maxRecDepth 100000 in
set_option maxHeartbeats 1000000 in
theorem rread_any (s : ByteArray) (hi lo sp f : Nat) (e : Int) (W : World) (hs : s.size ≤ 1000000000000000) (hr : readR s = ((hi, lo, sp, f), e)) :
    Calls Try.prog 49 #[.string s] W fun e' w' => e' = .returned (.tuple #[.agg #[.int .u64 hi, .int .u64 lo, .int .u64 sp, .int .i64 f], .int .i64 e]) ∧ Below W.heap.size W w' := by
  unfold readR at hr
  have HB0 : Hid (Below W.heap.size W (W.alloc (.cells #[.int .u64 0, .int .u64 0, .int .u64 0, .int .i64 0] 44))) := by show Below _ _ _; go_grown
  have HBLK := hid (fun w' (hw : Below (W.alloc (.cells #[.int .u64 0, .int .u64 0, .int .u64 0, .int .i64 0] 44)).heap.size (W.alloc (.cells #[.int .u64 0, .int .u64 0, .int .u64 0, .int .i64 0] 44)) w') => (Blk.new W #[.int .u64 0, .int .u64 0, .int .u64 0, .int .i64 0] 44).later hw)
  have HF0 := hid (fun r hr w => rformed_any s r w hs hr)
  by_cases hf : formR s = true
  case neg =>
    rw [if_neg hf] at hr
    cases hr
    rw [Bool.not_eq_true] at hf
    have HF := hid (HF0.out _ hf)
    clear HF0 hf
    go_enter Try.func49, Try.ntmps49
    go_wp2_with fail
    refine (HF.out _).mono ?_
    rintro e w1 ⟨rfl, rfl⟩
    go_wp2_with fail
    refine bodyPost_ret (by simp [results, Try.results49, go_sem]; try rfl) rfl ?_
    exact ⟨rfl, by go_grown⟩
  have HF := hid (HF0.out _ hf)
  have hsz := formR_size hf
  rw [if_pos hf] at hr
  have x1 : (s.extract 3 35).size = 32 := by rw [ByteArray.size_extract]; omega
  have x2 : (s.extract 36 52).size = 16 := by rw [ByteArray.size_extract]; omega
  have x3 : (s.extract 53 55).size = 2 := by rw [ByteArray.size_extract]; omega
  obtain ⟨hi', lo', e1, q1⟩ : ∃ a b c, ofR (s.extract 3 35) = ((a, b), c) := ⟨_, _, _, rfl⟩
  obtain ⟨sp', e2, q2⟩ : ∃ a c, spanOfR (s.extract 36 52) = (a, c) := ⟨_, _, rfl⟩
  obtain ⟨f', e3, q3⟩ : ∃ a c, unhexR (s.extract 53 55) = (a, c) := ⟨_, _, rfl⟩
  have b3 := unhexR_two _ x3
  have HOF := hid (fun w => rof_any (s.extract 3 35) w)
  have HSP := hid (fun w => rspanOf_any (s.extract 36 52) w (by omega))
  have HUN := hid (fun w => runhex_val (s.extract 53 55) w f' e3 (by omega) q3)
  rw [q1] at HOF
  rw [q2] at HSP
  replace HOF : Hid (∀ w, Calls Try.prog 132 #[.string (s.extract 3 35)] w fun e w' => e = .returned (.tuple #[.agg #[.int .u64 hi', .int .u64 lo'], .int .i64 e1]) ∧ Below w.heap.size w w') := HOF
  rw [q3] at b3
  rw [q1, q2, q3] at hr
  have b3' : f' < 256 := b3
  have b4 : IntKind.i64.wrap (f' : Int) = (f' : Int) := IntWalk.i64_in _ (by omega)
  replace hr : (if e1 = 0 ∧ e2 = 0 then ((hi', lo', sp', f'), (0 : Int)) else ((0, 0, 0, 0), 11)) = ((hi, lo, sp, f), e) := hr
  clear q1 q2 q3 b3
  clear HF0 hf
  by_cases g1 : e1 = 0
  case neg =>
    rw [if_neg (fun h => g1 h.1)] at hr
    cases hr
    have g1' : (e1 != 0) = true := by rw [bne, beq_eq_false_iff_ne.2 g1]; rfl
    clear g1
    go_enter Try.func49, Try.ntmps49
    go_wp2_with fail
    refine (HF.out _).mono ?_
    rintro e w1 ⟨rfl, rfl⟩
    go_wp2_with fail
    refine (HOF.out _).mono ?_
    rintro e w1 ⟨rfl, hb1⟩
    have hk := HBLK.out _ hb1
    have hlt := hk.lt
    have d0 : w1.cell? ⟨W.heap.size, 0, none⟩ = some (.int .u64 0) := hk.cell 0
    have f0 := hk.free 0
    have d1 : w1.cell? ⟨W.heap.size, 1, none⟩ = some (.int .u64 0) := hk.cell 1
    have f1 := hk.free 1
    have d2 : w1.cell? ⟨W.heap.size, 2, none⟩ = some (.int .u64 0) := hk.cell 2
    have f2 := hk.free 2
    have d3 : w1.cell? ⟨W.heap.size, 3, none⟩ = some (.int .i64 0) := hk.cell 3
    have f3 := hk.free 3
    have HB1 := hid (HB0.out.trans (hb1.mono (by simp)))
    clear hb1 hk
    go_wp2_with fail
    refine (HSP.out _).mono ?_
    rintro e w2 ⟨rfl, rfl⟩
    go_wp2_with fail
    refine bodyPost_ret (by simp [results, Try.results49, go_sem, hlt, d0, d1, d2, d3]; try rfl) rfl ?_
    exact ⟨rfl, HB1.out.trans (by have := HB1.out.size; go_grown; all_goals omega)⟩
  subst g1
  by_cases g2 : e2 = 0
  case neg =>
    rw [if_neg (fun h => g2 h.2)] at hr
    cases hr
    have g2' : (e2 != 0) = true := by rw [bne, beq_eq_false_iff_ne.2 g2]; rfl
    clear g2
    go_enter Try.func49, Try.ntmps49
    go_wp2_with fail
    refine (HF.out _).mono ?_
    rintro e w1 ⟨rfl, rfl⟩
    go_wp2_with fail
    refine (HOF.out _).mono ?_
    rintro e w1 ⟨rfl, hb1⟩
    have hk := HBLK.out _ hb1
    have hlt := hk.lt
    have d0 : w1.cell? ⟨W.heap.size, 0, none⟩ = some (.int .u64 0) := hk.cell 0
    have f0 := hk.free 0
    have d1 : w1.cell? ⟨W.heap.size, 1, none⟩ = some (.int .u64 0) := hk.cell 1
    have f1 := hk.free 1
    have d2 : w1.cell? ⟨W.heap.size, 2, none⟩ = some (.int .u64 0) := hk.cell 2
    have f2 := hk.free 2
    have d3 : w1.cell? ⟨W.heap.size, 3, none⟩ = some (.int .i64 0) := hk.cell 3
    have f3 := hk.free 3
    have HB1 := hid (HB0.out.trans (hb1.mono (by simp)))
    clear hb1 hk
    go_wp2_with fail
    refine (HSP.out _).mono ?_
    rintro e w2 ⟨rfl, rfl⟩
    go_wp2_with fail
    refine bodyPost_ret (by simp [results, Try.results49, go_sem, hlt, d0, d1, d2, d3]; try rfl) rfl ?_
    exact ⟨rfl, HB1.out.trans (by have := HB1.out.size; go_grown; all_goals omega)⟩
  subst g2
  rw [if_pos ⟨rfl, rfl⟩] at hr
  cases hr
  go_enter Try.func49, Try.ntmps49
  go_wp2_with fail
  refine (HF.out _).mono ?_
  rintro e w1 ⟨rfl, rfl⟩
  go_wp2_with fail
  refine (HOF.out _).mono ?_
  rintro e w1 ⟨rfl, hb1⟩
  have hk := HBLK.out _ hb1
  have hlt := hk.lt
  have d0 : w1.cell? ⟨W.heap.size, 0, none⟩ = some (.int .u64 0) := hk.cell 0
  have f0 := hk.free 0
  have d1 : w1.cell? ⟨W.heap.size, 1, none⟩ = some (.int .u64 0) := hk.cell 1
  have f1 := hk.free 1
  have d2 : w1.cell? ⟨W.heap.size, 2, none⟩ = some (.int .u64 0) := hk.cell 2
  have f2 := hk.free 2
  have d3 : w1.cell? ⟨W.heap.size, 3, none⟩ = some (.int .i64 0) := hk.cell 3
  have f3 := hk.free 3
  have HB1 := hid (HB0.out.trans (hb1.mono (by simp)))
  clear hb1 hk
  go_wp2_with fail
  refine (HSP.out _).mono ?_
  rintro e w2 ⟨rfl, rfl⟩
  go_wp2_with fail
  refine (HUN.out _).mono ?_
  rintro e w3 ⟨rfl, rfl⟩
  go_wp2_with fail
  refine bodyPost_ret (by simp [results, Try.results49, go_sem, hlt, d0, d1, d2, d3]; try rfl) rfl ?_
  exact ⟨rfl, HB1.out.trans (by have := HB1.out.size; go_grown; all_goals omega)⟩
end C07
end Go.Proofs.Ytpamnknfccmgcaa
