/- Walks of layer 7 (parent): the law of writings; no condition. -/
import Derived.Test.YtpamnknfccmgcaaJ07
namespace Go.Proofs.Ytpamnknfccmgcaa
open Go.RowKit Go.Peri
namespace C07
open C01 C06
set_option maxRecDepth 100000 in
set_option maxHeartbeats 4000000 in
theorem writes_walk (hi lo sp n : Nat) (f : Int) (W : World) (h1 : hi < 18446744073709551616) (h2 : lo < 18446744073709551616) (h3 : sp < 18446744073709551616) :
    Calls Try.prog 7 #[.agg #[.int .u64 hi, .int .u64 lo, .int .u64 sp, .int .i64 f], .int .u64 n] W fun e w' => e = .returned (.bool true) ∧ Below W.heap.size W w' := by
  obtain ⟨a, er, hr⟩ : ∃ a e, writeR hi lo sp f = (a, e) := ⟨_, _, rfl⟩
  have HW1 := hid (fun w => write_any hi lo sp f a er w h1 h2 h3 hr)
  have HW2 := hid (fun w => rwrite_any hi lo sp f a er w h1 h2 h3 hr)
  obtain ⟨b, hb⟩ : ∃ b, sampR f = b := ⟨_, rfl⟩
  have HS1 := hid (fun w => sampled_any hi lo sp f b w hb)
  have HS2 := hid (fun w => rsampled_any hi lo sp f b w hb)
  have HC1 := hid (fun w => child_any hi lo sp n f w)
  have HC2 := hid (fun w => rchild_any hi lo sp n f w)
  have HK := hid known_any
  have q := eqP
  have e0 : (b == b) = true := by simp
  have HP0 := hid (Blk.new W #[.int .u64 hi, .int .u64 lo, .int .u64 sp, .int .i64 f] 44)
  have HB0 : Hid (Below W.heap.size W (W.alloc (.cells #[.int .u64 hi, .int .u64 lo, .int .u64 sp, .int .i64 f] 44))) := by show Below _ _ _; go_grown
  clear hr hb
  go_enter Try.func7, Try.ntmps7
  go_wp2_with fail
  refine (HW1.out _).mono ?_
  rintro e w1 ⟨rfl, hb1⟩
  have HP1 := hid (HP0.out.later hb1)
  have c0 : w1.cell? ⟨W.heap.size, 0, none⟩ = some (.int .u64 hi) := HP1.out.cell 0
  have c1 : w1.cell? ⟨W.heap.size, 1, none⟩ = some (.int .u64 lo) := HP1.out.cell 1
  have c2 : w1.cell? ⟨W.heap.size, 2, none⟩ = some (.int .u64 sp) := HP1.out.cell 2
  have c3 : w1.cell? ⟨W.heap.size, 3, none⟩ = some (.int .i64 f) := HP1.out.cell 3
  have hl1 := HP1.out.lt
  have HB1 := hid (HB0.out.trans (hb1.mono (by simp)))
  clear hb1
  go_wp2_with fail
  refine (HW2.out _).mono ?_
  rintro e w2 ⟨rfl, hb2⟩
  have HP2 := hid (HP1.out.later hb2)
  have HB2 := hid (HB1.out.trans (hb2.mono HB1.out.size))
  have d0 : w2.cell? ⟨W.heap.size, 0, none⟩ = some (.int .u64 hi) := HP2.out.cell 0
  have d1 : w2.cell? ⟨W.heap.size, 1, none⟩ = some (.int .u64 lo) := HP2.out.cell 1
  have d2 : w2.cell? ⟨W.heap.size, 2, none⟩ = some (.int .u64 sp) := HP2.out.cell 2
  have d3 : w2.cell? ⟨W.heap.size, 3, none⟩ = some (.int .i64 f) := HP2.out.cell 3
  have hlt := HP2.out.lt
  clear hb2 c0 c1 c2 c3 hl1
  go_wp2_with fail
  refine wp_region_bw (by kernel_rfl) (by kernel_rfl) ?_
  repeat (go_big_quiet_step ((first | (go_at_call 52; exact bw_call (HS1.out _)) | (go_at_call 53; exact bw_call (HS2.out _)) | (go_at_call 54; exact bw_call (HC1.out _)) | (go_at_call 55; exact bw_call (HC2.out _)) | (go_at_call 47; exact bw_call (HK.out _)))))
  refine wpQuiet_nil ?_
  rintro _ ⟨⟨w3, hb3⟩, rfl⟩
  have HB3 := hid (HB2.out.trans (hb3.mono HB2.out.size))
  clear hb3
  go_wp2_with fail
  go_ret
  exact ⟨rfl, HB3.out⟩
end C07
end Go.Proofs.Ytpamnknfccmgcaa
