/- Walks of layer 1 (octet): numbers as bytes; no condition. -/
import Derived.Test.YthmopkaecbebpaaProg
import Derived.Test.YthmopkaecbebpaaBase2
import Derived.Test.YthmopkaecbebpaaP01
import Derived.Laws.BitsAllLaws
import Derived.Laws.Bits64
import Derived.Laws.IdiomStrings
import Derived.Laws.Concat
namespace Go.Proofs.Ythmopkaecbebpaa
open Go.RowKit Go.Peri
namespace C01

def ofNats (l : List Nat) : ByteArray := ⟨(l.map UInt8.ofNat).toArray⟩
def bytes (l : List Nat) : List Value := l.map fun (d : Nat) => Value.int .u8 (d : Int)

theorem pow_ne (n b w : Nat) (hb : 0 < b) : (n / b ^ w = 0) ↔ n < b ^ w := by
  rw [Nat.div_eq_zero_iff]
  have : 0 < b ^ w := Nat.pow_pos hb
  omega

set_option maxRecDepth 100000 in
theorem within8 (n w : Nat) (W : World) (hn : n < 18446744073709551616) (h1 : 1 ≤ w) (h2 : w ≤ 8) :
    Calls Try.prog 137 #[.int .u64 n, .int .i64 8, .int .i64 w] W fun e w' => e = .returned (.bool (decide (n < 256 ^ w))) ∧ W = w' := by
  by_cases h8 : w = 8
  · subst h8
    have hd : Hid (decide (n < 256 ^ 8) = true) := by show _ = _; simpa using hn
    go_enter Try.func137, Try.ntmps137
    go_wp2_with fail
    go_ret
    exact ⟨by rw [hd.out]; rfl, rfl⟩
  · have h3 : ¬ (64 : Int) ≤ 8 * (w : Int) := by omega
    have h4 : w < 8 := by omega
    have hd : Hid (((n : Int) / 2 ^ (8 * w) == 0) = decide (n < 256 ^ w)) := by
      show _ = _
      have e : (2 : Int) ^ (8 * w) = ((256 ^ w : Nat) : Int) := by rw [Int.pow_mul]; simp
      rw [e, show ((n : Int) / ((256 ^ w : Nat) : Int)) = ((n / 256 ^ w : Nat) : Int) from rfl]
      by_cases hlt : n < 256 ^ w
      · rw [(pow_ne n 256 w (by decide)).2 hlt]; simp [hlt]
      · have := mt (pow_ne n 256 w (by decide)).1 hlt
        simp only [hlt, decide_false, beq_eq_false_iff_ne]
        omega
    clear h8
    go_enter Try.func137, Try.ntmps137
    go_wp2_with fail
    go_ret
    exact ⟨ret_bool hd.out, rfl⟩

def SplitQ (W : World) (b n w : Nat) (v : Value) (W' : World) : Prop := v = .slice (some ⟨W.heap.size, 0, none⟩) w w ∧ Below W.heap.size W W' ∧ Blk W' W.heap.size (bytes (Oct.dg b n w)).toArray 5

theorem and255 (m : Nat) : bits .and .u8 ((m : Int) % 256) 255 = ((m % 256 : Nat) : Int) := by
  have e : ((m : Int) % 256) = ((m % 256 : Nat) : Int) := by omega
  rw [e, show (255 : Int) = ((255 : Nat) : Int) from rfl, u8_and_nat _ _ (by omega) (by omega)]
  congr 1
  rw [show (255 : Nat) = 2 ^ 8 - 1 from rfl, Nat.and_two_pow_sub_one_eq_mod]
  omega
theorem and15 (m : Nat) : bits .and .u8 ((m : Int) % 256) 15 = ((m % 16 : Nat) : Int) := by
  have e : ((m : Int) % 256) = ((m % 256 : Nat) : Int) := by omega
  rw [e, show (15 : Int) = ((15 : Nat) : Int) from rfl, u8_and_nat _ _ (by omega) (by omega)]
  congr 1
  rw [show (15 : Nat) = 2 ^ 4 - 1 from rfl, Nat.and_two_pow_sub_one_eq_mod]
  omega

/-- The array of 'split' behind k rounds. -/
def half (b n w k : Nat) : List Value := List.replicate (w - k) (.int .u8 0) ++ bytes (Oct.dg b n k)
theorem half_length (b n w k : Nat) (h : k ≤ w) : (half b n w k).length = w := by
  simp [half, bytes, Oct.dg_length]; omega
theorem half_next (b n w k : Nat) (h : k < w) : (half b n w k).toArray.setIfInBounds (w - 1 - k) (.int .u8 ((n / b ^ k % b : Nat) : Int)) = (half b n w (k + 1)).toArray := by
  rw [List.setIfInBounds_toArray]
  congr 1
  unfold half
  rw [show w - k = (w - 1 - k) + 1 by omega, show w - (k + 1) = w - 1 - k by omega, List.replicate_succ', List.append_assoc, List.set_append_right _ _ (by simp)]
  simp [Oct.dg, bytes]
theorem half_start (b n w : Nat) : half b n w 0 = List.replicate w (.int .u8 0) := by simp [half, Oct.dg, bytes]
theorem half_end (b n w : Nat) : half b n w w = bytes (Oct.dg b n w) := by simp [half]

set_option maxRecDepth 100000 in
theorem split8 (n w : Nat) (W : World) (hn : n < 18446744073709551616) (h1 : 1 ≤ w) (h2 : w ≤ 8) :
    Calls Try.prog 138 #[.int .u64 n, .int .i64 8, .int .i64 w] W (Ret (SplitQ W 256 n w)) := by
  obtain ⟨i0, hi, hz, hsz, hby⟩ := info_parts (P := Try.prog) (e := 5) (z := .int .u8 0) (size := 1) (bytes := 1) (by kernel_rfl)
  have hmk : ∀ W : World, (Instr.makeSlice 106 (.int .i64 (w : Int)) (.int .i64 (w : Int))).run Try.prog W = .ok (.slice (some ⟨W.heap.size, 0, none⟩) w w) (W.alloc (.cells (half 256 n w 0).toArray 5)) := by
    intro W
    have := run_make_n (P := Try.prog) 106 5 Try.underlying106 hi hz w (by rw [hby]; omega) (by omega) W
    rw [this, hsz, Nat.mul_one, half_start]
    have e2 : madeCells (Value.int .u8 0).cells w = (List.replicate w (.int .u8 0)).toArray := by
      apply Array.toList_inj.1
      rw [show (Value.int .u8 0).cells = #[Value.int .u8 0] from rfl, toList_madeCells_one]
    rw [e2]
  clear hi hz hsz hby
  have hx0 : Blk (W.alloc (.cells (half 256 n w 0).toArray 5)) W.heap.size (half 256 n w 0).toArray 5 := Blk.new _ _ _
  have HX0 := hid hx0
  clear hx0
  obtain ⟨X0, hX0⟩ : ∃ X, X = (half 256 n w 0).toArray := ⟨_, rfl⟩
  rw [← hX0] at hmk
  have HXX := hid hX0
  clear hX0
  go_enter Try.func138, Try.ntmps138
  go_wp2_with fail
  go_loopw [0, 12] (fun x i wr => ∃ k m : Nat, k ≤ w ∧ i = .int .i64 k ∧ x = .int .u64 m ∧ m < 18446744073709551616 ∧ m = n / 256 ^ k ∧ Below W.heap.size W wr ∧ Blk wr W.heap.size (half 256 n w k).toArray 5) (fun _ i _ => w - (intOf i).toNat)
  case atStart => exact ⟨0, n, Nat.zero_le _, rfl, rfl, hn, by simp, by go_grown, by rw [HXX.out]; exact HX0.out⟩
  case round =>
    obtain ⟨k, m, hk, rfl, rfl, hm, hmn, hb, hx⟩ := hrel
    have HMN := hid hmn
    have HB := hid hb
    have HX := hid hx
    by_cases hlt : k < w
    · have c0 : wr.cell? ⟨W.heap.size, w - 1 - k, none⟩ = some ((half 256 n w k).toArray[w - 1 - k]'(by simp [half_length 256 n w k hk]; omega)) := by
        rw [hx.cell, Array.getElem?_eq_getElem]
      have f0 := hx.free (w - 1 - k)
      have e1 := and255 m
      have hnx := half_next 256 n w k hlt
      rw [← hmn] at hnx
      have HNX := hid hnx
      generalize (half 256 n w k).toArray[w - 1 - k]'(by simp [half_length 256 n w k hk]; omega) = u at c0
      clear hmn hb hx hnx hmk
      go_wp2_with fail
      go_roundw
      case rel =>
        refine ⟨k + 1, m / 256, by omega, by go_num, by go_num, by omega, ?_, ?_, ?_⟩
        · rw [HMN.out, Nat.div_div_eq_div_mul, Nat.pow_succ]
        · exact HB.out.setCell (Nat.le_refl _) _
        · have := HX.out.set (w - 1 - k) (.int .u8 ((m % 256 : Nat) : Int))
          rw [HNX.out] at this
          first | exact this | (simpa using this)
      case measure => simp [intOf]; omega
    · obtain rfl : k = w := by omega
      clear hmn hb hx
      go_wp2_with fail
      go_ret
      exact ⟨_, rfl, rfl, HB.out, by have := HX.out; rwa [half_end] at this⟩

theorem back8 (W : World) (g : Nat) (l : List Nat) (hl : ∀ d ∈ l, d < 256) (h : Blk W g (bytes l).toArray 5) (c : Nat) :
    (convert 106 9 (.slice (some ⟨g, 0, none⟩) l.length c)).run Try.prog W = .ok (.string (ofNats l)) W := by
  have hlen : (l.map UInt8.ofNat).length = l.length := by simp
  have := run_convert_bytes_back (P := Try.prog) W 106 9 5 ⟨g, 0, none⟩ c (l.map UInt8.ofNat) Try.underlying106 Try.underlying5 Try.underlying9 (fun j hj => by
    have hj' : j < l.length := by simpa using hj
    have e1 : (⟨g, 0, none⟩ : Addr).add j = ⟨g, j, none⟩ := by
      unfold Addr.add; split
      · rename_i hz; rw [hz]
      · simp
    rw [e1, h.cell]
    have hd := hl (l[j]) (List.getElem_mem hj')
    simp [bytes, hj']
    omega)
  rw [hlen] at this
  exact this

def putR (n : Nat) (w : Int) : ByteArray × Int :=
  if 1 ≤ w ∧ w ≤ 8 then (if n < 256 ^ w.toNat then (ofNats (Oct.dg 256 n w.toNat), 0) else (ByteArray.empty, 12)) else (ByteArray.empty, 2)

end C01
end Go.Proofs.Ythmopkaecbebpaa
