/- Walks of layer 6 (ids): whether a trace is none, which trace a text is, what is drawn; no condition. -/
import Derived.Test.YtpamnknfccmgcaaC06
namespace Go.Proofs.Ytpamnknfccmgcaa
open Go.RowKit Go.Peri
namespace C06
open C01

theorem eq56 (a b c d : Int) (w : World) : (Op.equalIn 10000 42 (.agg #[.int .u64 a, .int .u64 b]) (.agg #[.int .u64 c, .int .u64 d])).run Try.prog w = .ok (a == c && b == d) w := by
  have u3 := Try.underlying40
  have a3 := Try.isAgg40
  have z3 := Try.sizeOf40
  rw [show (10000 : Nat) = 9999 + 1 from rfl, run_equalIn_struct w 9999 42 _ _ (by kernel_rfl) (by kernel_rfl)]
  simp only [Program.fieldsOf, Try.underlying42, Op.eqFields]
  go_simp
  by_cases h1 : a = c <;> by_cases h2 : b = d <;> simp [h1, h2]

def zeroR (hi lo : Nat) : Bool := decide (hi = 0 ∧ lo = 0)
theorem zero_or (hi lo : Nat) (h1 : hi < 18446744073709551616) (h2 : lo < 18446744073709551616) : (bits .or .u64 (hi : Int) (lo : Int) == 0) = zeroR hi lo := by
  rw [u64_or_nat _ _ h1 h2]
  unfold zeroR
  by_cases h : hi ||| lo = 0
  · have := Nat.or_eq_zero_iff.1 h
    simp [this.1, this.2]
  · have h3 := mt Nat.or_eq_zero_iff.2 h
    simp only [h3, decide_false, beq_eq_false_iff_ne]
    omega
set_option maxRecDepth 100000 in
theorem zero_any (hi lo : Nat) (W : World) (h1 : hi < 18446744073709551616) (h2 : lo < 18446744073709551616) :
    Calls Try.prog 135 #[.agg #[.int .u64 hi, .int .u64 lo]] W fun e w' => e = .returned (.bool (zeroR hi lo)) ∧ Below W.heap.size W w' := by
  have HZ := hid (zero_or hi lo h1 h2)
  go_enter Try.func135, Try.ntmps135
  go_wp2_with fail
  go_ret
  exact ⟨ret_bool HZ.out, by go_grown⟩
theorem zero_eq (hi lo : Nat) : ((hi : Int) == 0 && (lo : Int) == 0) = zeroR hi lo := by
  unfold zeroR
  by_cases a : hi = 0 <;> by_cases b : lo = 0 <;> simp [a, b]
set_option maxRecDepth 100000 in
theorem rzero_any (hi lo : Nat) (W : World) :
    Calls Try.prog 139 #[.agg #[.int .u64 hi, .int .u64 lo]] W fun e w' => e = .returned (.bool (zeroR hi lo)) ∧ Below W.heap.size W w' := by
  have HZ := hid (zero_eq hi lo)
  have q := eq56
  go_enter Try.func139, Try.ntmps139
  go_wp2_with fail
  go_ret
  exact ⟨ret_bool HZ.out, by go_grown⟩

def natVals (zs : List Nat) : List Value := zs.map fun (d : Nat) => Value.int .u64 (d : Int)
def atR (zs : List Nat) (n : Int) : Nat := if 0 ≤ n ∧ n < zs.length then zs.getD n.toNat 0 else 4294967296 + n.toNat
theorem nats_parts {B : Nat} {w : World} {v : Value} {zs : List Nat} (h : IsVals B w v (natVals zs)) : ∃ a cap, v = .slice a zs.length cap ∧ zs.length ≤ cap ∧ cap ≤ maxLen ∧ (a = none → cap = 0) ∧
    (zs = [] ∨ ∃ b off, a = some ⟨b, off, none⟩ ∧ b < B ∧ ∀ i, i < zs.length → w.cell? ⟨b, off + i, none⟩ = some (.int .u64 (zs.getD i 0 : Nat))) := by
  obtain ⟨a, cap, h1, h2, h3, h4, h5⟩ := h
  have hl : (natVals zs).length = zs.length := by simp [natVals]
  rw [hl] at h1 h2
  refine ⟨a, cap, h1, h2, h3, h4, ?_⟩
  rcases h5 with h5 | ⟨b, off, e1, e2, e3⟩
  · left; simpa [natVals] using h5
  · refine .inr ⟨b, off, e1, e2, fun i hi => ?_⟩
    rw [e3 i (by rw [hl]; exact hi)]
    simp [natVals, hi]

end C06
end Go.Proofs.Ytpamnknfccmgcaa
