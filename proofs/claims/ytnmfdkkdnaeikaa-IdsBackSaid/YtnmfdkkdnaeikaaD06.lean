/- Walks of layer 6 (ids): whether a trace is none, which trace a text is, what is drawn; no condition. -/
import Derived.Test.YtnmfdkkdnaeikaaC06
namespace Go.Proofs.Ytnmfdkkdnaeikaa
open Go.RowKit Go.Peri
namespace C06
open C01

theorem eq56 (a b c d : Int) (w : World) : (Op.equalIn 10000 56 (.agg #[.int .u64 a, .int .u64 b]) (.agg #[.int .u64 c, .int .u64 d])).run Try.prog w = .ok (a == c && b == d) w := by
  have u3 := Try.underlying22
  have a3 := Try.isAgg22
  have z3 := Try.sizeOf22
  rw [show (10000 : Nat) = 9999 + 1 from rfl, run_equalIn_struct w 9999 56 _ _ (by kernel_rfl) (by kernel_rfl)]
  simp only [Program.fieldsOf, Try.underlying56, Op.eqFields]
  go_simp
  by_cases h1 : a = c <;> by_cases h2 : b = d <;> simp [h1, h2]

def zeroR (hi lo : Nat) : Bool := decide (hi = 0 ∧ lo = 0)
theorem zero_or (hi lo : Nat) (h1 : hi < 18446744073709551616) (h2 : lo < 18446744073709551616) : (bits .or .u64 (hi : Int) (lo : Int) == 0) = zeroR hi lo := by
  rw [u64_or_nat _ _ h1 h2]
  unfold zeroR
  by_cases h : hi ||| lo = 0
  · have := Nat.or_eq_zero_iff.1 h
    simp [this.1, this.2]
  · have h3 := mt Nat.or_eq_zero_iff.2 h
    simp only [h3, decide_false, beq_eq_false_iff_ne]
    omega
set_option maxRecDepth 100000 in
theorem zero_any (hi lo : Nat) (W : World) (h1 : hi < 18446744073709551616) (h2 : lo < 18446744073709551616) :
    Calls Try.prog 60 #[.agg #[.int .u64 hi, .int .u64 lo]] W fun e w' => e = .returned (.bool (zeroR hi lo)) ∧ Below W.heap.size W w' := by
  have HZ := hid (zero_or hi lo h1 h2)
  go_enter Try.func60, Try.ntmps60
  go_wp2_with fail
  go_ret
  exact ⟨ret_bool HZ.out, by go_grown⟩
theorem zero_eq (hi lo : Nat) : ((hi : Int) == 0 && (lo : Int) == 0) = zeroR hi lo := by
  unfold zeroR
  by_cases a : hi = 0 <;> by_cases b : lo = 0 <;> simp [a, b]
set_option maxRecDepth 100000 in
theorem rzero_any (hi lo : Nat) (W : World) :
    Calls Try.prog 61 #[.agg #[.int .u64 hi, .int .u64 lo]] W fun e w' => e = .returned (.bool (zeroR hi lo)) ∧ Below W.heap.size W w' := by
  have HZ := hid (zero_eq hi lo)
  have q := eq56
  go_enter Try.func61, Try.ntmps61
  go_wp2_with fail
  go_ret
  exact ⟨ret_bool HZ.out, by go_grown⟩

def natVals (zs : List Nat) : List Value := zs.map fun (d : Nat) => Value.int .u64 (d : Int)
def atR (zs : List Nat) (n : Int) : Nat := if 0 ≤ n ∧ n < zs.length then zs.getD n.toNat 0 else 4294967296 + n.toNat
theorem nats_parts {B : Nat} {w : World} {v : Value} {zs : List Nat} (h : IsVals B w v (natVals zs)) : ∃ a cap, v = .slice a zs.length cap ∧ zs.length ≤ cap ∧ cap ≤ maxLen ∧ (a = none → cap = 0) ∧
    (zs = [] ∨ ∃ b off, a = some ⟨b, off, none⟩ ∧ b < B ∧ ∀ i, i < zs.length → w.cell? ⟨b, off + i, none⟩ = some (.int .u64 (zs.getD i 0 : Nat))) := by
  obtain ⟨a, cap, h1, h2, h3, h4, h5⟩ := h
  have hl : (natVals zs).length = zs.length := by simp [natVals]
  rw [hl] at h1 h2
  refine ⟨a, cap, h1, h2, h3, h4, ?_⟩
  rcases h5 with h5 | ⟨b, off, e1, e2, e3⟩
  · left; simpa [natVals] using h5
  · refine .inr ⟨b, off, e1, e2, fun i hi => ?_⟩
    rw [e3 i (by rw [hl]; exact hi)]
    simp [natVals, hi]

set_option maxRecDepth 100000 in
theorem at_any {B : Nat} (v : Value) (zs : List Nat) (n : Int) (w : World) (h : IsVals B w v (natVals zs)) (hn : -9223372036854775808 ≤ n ∧ n ≤ 9223372036854775807) : Calls Try.prog 62 #[v, .int .i64 n] w fun e w' => e = .returned (.int .u64 (atR zs n : Nat)) ∧ w = w' := by
  by_cases hn' : 0 ≤ n ∧ n < zs.length
  · have H : Hid (atR zs n = zs.getD n.toNat 0) := if_pos hn'
    obtain ⟨hn0, hn1⟩ := hn'
    obtain ⟨k, rfl⟩ := Int.eq_ofNat_of_zero_le hn0
    obtain ⟨a, cap, rfl, hc, hm, _, rfl | ⟨b, off, rfl, _, hcell⟩⟩ := nats_parts h
    · simp at hn1; omega
    · have hk : k < zs.length := by omega
      clear h
      have c0 := hcell k hk
      have H2 : Hid (atR zs k = zs.getD k 0) := by have := H.out; exact this
      generalize zs.getD k 0 = z at c0 H2
      unfold maxLen at hm
      clear hcell H
      go_enter Try.func62, Try.ntmps62
      go_wp2_with fail
      go_ret
      exact ⟨by rw [H2.out]; rfl, rfl⟩
  · have H : Hid (atR zs n = 4294967296 + n.toNat) := if_neg hn'
    obtain ⟨a, cap, rfl, hc, hm, _⟩ := nats_parts h
    clear h
    unfold maxLen at hm
    by_cases h0 : n < 0
    · have H2 : Hid (atR zs n = 4294967296) := by show _ = _; rw [H.out]; omega
      clear hn' H hn
      go_enter Try.func62, Try.ntmps62
      go_wp2_with fail
      go_ret
      exact ⟨by rw [H2.out]; rfl, rfl⟩
    · obtain ⟨k, rfl⟩ := Int.eq_ofNat_of_zero_le (show 0 ≤ n by omega)
      have h2 : ¬ (k : Int) < (zs.length : Int) := by omega
      have hk : k < 9223372036854775808 := by omega
      have HK : Hid ((k : Int).toNat = k) := Int.toNat_natCast k
      clear hn' hn h0
      go_enter Try.func62, Try.ntmps62
      go_wp2_with fail
      go_ret
      exact ⟨by rw [H.out, HK.out]; go_num, rfl⟩

set_option maxRecDepth 100000 in
theorem rat_any {B : Nat} (v : Value) (zs : List Nat) (n : Int) (w : World) (h : IsVals B w v (natVals zs)) (hn : -9223372036854775808 ≤ n ∧ n ≤ 9223372036854775807) : Calls Try.prog 63 #[v, .int .i64 n] w fun e w' => e = .returned (.int .u64 (atR zs n : Nat)) ∧ w = w' := by
  by_cases hn' : 0 ≤ n ∧ n < zs.length
  · have H : Hid (atR zs n = zs.getD n.toNat 0) := if_pos hn'
    obtain ⟨hn0, hn1⟩ := hn'
    obtain ⟨k, rfl⟩ := Int.eq_ofNat_of_zero_le hn0
    obtain ⟨a, cap, rfl, hc, hm, _, rfl | ⟨b, off, rfl, _, hcell⟩⟩ := nats_parts h
    · simp at hn1; omega
    · have hk : k < zs.length := by omega
      clear h
      have c0 := hcell k hk
      have H2 : Hid (atR zs k = zs.getD k 0) := by have := H.out; exact this
      generalize zs.getD k 0 = z at c0 H2
      unfold maxLen at hm
      clear hcell H
      go_enter Try.func63, Try.ntmps63
      go_wp2_with fail
      go_ret
      exact ⟨by rw [H2.out]; rfl, rfl⟩
  · have H : Hid (atR zs n = 4294967296 + n.toNat) := if_neg hn'
    obtain ⟨a, cap, rfl, hc, hm, _⟩ := nats_parts h
    clear h
    unfold maxLen at hm
    by_cases h0 : n < 0
    · have H2 : Hid (atR zs n = 4294967296) := by show _ = _; rw [H.out]; omega
      clear hn' H hn
      go_enter Try.func63, Try.ntmps63
      go_wp2_with fail
      go_ret
      exact ⟨by rw [H2.out]; rfl, rfl⟩
    · obtain ⟨k, rfl⟩ := Int.eq_ofNat_of_zero_le (show 0 ≤ n by omega)
      have h2 : ¬ (k : Int) < (zs.length : Int) := by omega
      have hk : k < 9223372036854775808 := by omega
      have HK : Hid ((k : Int).toNat = k) := Int.toNat_natCast k
      clear hn' hn h0
      go_enter Try.func63, Try.ntmps63
      go_wp2_with fail
      go_ret
      exact ⟨by rw [H.out, HK.out]; go_num, rfl⟩

end C06
end Go.Proofs.Ytnmfdkkdnaeikaa
