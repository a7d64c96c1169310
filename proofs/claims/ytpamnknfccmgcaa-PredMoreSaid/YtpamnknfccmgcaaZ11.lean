/- Walks of layer 11 (pred): the laws; no condition. -/
import Derived.Test.YtpamnknfccmgcaaY11
namespace Go.Proofs.Ytpamnknfccmgcaa
open Go.RowKit Go.Peri
namespace C11
theorem elemP : Elem Try.prog 57 54 3 40 := Elem.mk' (z := .agg #[.int .i64 0, .string ByteArray.empty, .string ByteArray.empty]) Try.underlying57 (by kernel_rfl) rfl (by decide)
theorem prefR_self (p : ByteArray) (j : Nat) (hj : j ≤ p.size) : prefR p (p.extract 0 j) = true := by
  unfold prefR
  have e : (p.extract 0 j).size = j := by rw [ByteArray.size_extract]; omega
  rw [e, decide_eq_true hj, decide_eq_true rfl]
  rfl
set_option maxRecDepth 100000 in
set_option maxHeartbeats 1000000 in
theorem checks_walk (K : Known) (k : Int) (n v : ByteArray) (W : World) (hn : n.size ≤ 140737488351232) (hv : v.size ≤ 140737488351232) :
    Calls Try.prog 9 #[.agg #[.int .i64 k, .string n, .string v]] W fun e w' => e = .returned (.bool true) ∧ Below W.heap.size W w' := by
  have HK := hid K
  have HB0 : Hid (Below W.heap.size W (W.alloc (.cells #[.int .i64 k, .string n, .string v] 54))) := by show Below _ _ _; go_grown
  have HS0 : Hid (W.heap.size < (W.alloc (.cells #[.int .i64 k, .string n, .string v] 54)).heap.size) := hid (by simp)
  clear K
  by_cases h4 : n.size + v.size ≤ 400
  · have g1 : ¬ (400 : Int) < (n.size : Int) + (v.size : Int) := by omega
    obtain ⟨ce, hce⟩ : ∃ ce, checkR k n v = ce := ⟨_, rfl⟩
    have HC1 := hid (fun w => pcheck_any k n v ce w (by omega) (by omega) hce)
    have HC2 := hid (fun w => rcheck_any k n v ce w (by omega) (by omega) hce)
    have e0 : (ce == ce) = true := by simp
    clear hce h4
    go_enter Try.func9, Try.ntmps9
    go_wp2_with fail
    refine wp_region_bw (by kernel_rfl) (by kernel_rfl) ?_
    repeat (go_big_quiet_step ((first | (go_at_call 57; exact bw_call (HC1.out _)) | (go_at_call 58; exact bw_call (HC2.out _)) | (go_at_call 56; exact bw_call (HK.out _)))))
    refine wpQuiet_nil ?_
    rintro w2 ⟨⟨_, hb2⟩, rfl⟩
    have HB2 := hid (HB0.out.trans (hb2.mono HB0.out.size))
    clear hb2
    go_wp2_with fail
    go_ret
    exact ⟨rfl, HB2.out⟩
  · have g1 : (400 : Int) < (n.size : Int) + (v.size : Int) := by omega
    clear h4
    go_enter Try.func9, Try.ntmps9
    go_wp2_with fail
    refine (HK.out _).mono ?_
    rintro e w9 ⟨rfl, hb9⟩
    have HB9 := hid (HB0.out.trans (hb9.mono HB0.out.size))
    clear hb9
    go_wp2_with fail
    go_ret
    exact ⟨rfl, HB9.out⟩
end C11
end Go.Proofs.Ytpamnknfccmgcaa
