/- Walks of layer 1 (octet): digits; no condition. -/
import Derived.Test.YtpamnknfccmgcaaD01
namespace Go.Proofs.Ytpamnknfccmgcaa
open Go.RowKit Go.Peri
namespace C01

set_option maxRecDepth 100000 in
theorem within4 (n w : Nat) (W : World) (hn : n < 18446744073709551616) (h1 : 1 ≤ w) (h2 : w ≤ 16) :
    Calls Try.prog 193 #[.int .u64 n, .int .i64 4, .int .i64 w] W fun e w' => e = .returned (.bool (decide (n < 16 ^ w))) ∧ W = w' := by
  by_cases h8 : w = 16
  · subst h8
    have hd : Hid (decide (n < 16 ^ 16) = true) := by show _ = _; simpa using hn
    go_enter Try.func193, Try.ntmps193
    go_wp2_with fail
    go_ret
    exact ⟨by rw [hd.out]; rfl, rfl⟩
  · have h3 : ¬ (64 : Int) ≤ 4 * (w : Int) := by omega
    have h4 : w < 16 := by omega
    have hd : Hid (((n : Int) / 2 ^ (4 * w) == 0) = decide (n < 16 ^ w)) := by
      show _ = _
      have e : (2 : Int) ^ (4 * w) = ((16 ^ w : Nat) : Int) := by rw [Int.pow_mul]; simp
      rw [e, show ((n : Int) / ((16 ^ w : Nat) : Int)) = ((n / 16 ^ w : Nat) : Int) from rfl]
      by_cases hlt : n < 16 ^ w
      · rw [(pow_ne n 16 w (by decide)).2 hlt]; simp [hlt]
      · have := mt (pow_ne n 16 w (by decide)).1 hlt
        simp only [hlt, decide_false, beq_eq_false_iff_ne]
        omega
    clear h8
    go_enter Try.func193, Try.ntmps193
    go_wp2_with fail
    go_ret
    exact ⟨ret_bool hd.out, rfl⟩

set_option maxRecDepth 100000 in
theorem split4 (n w : Nat) (W : World) (hn : n < 18446744073709551616) (h1 : 1 ≤ w) (h2 : w ≤ 16) :
    Calls Try.prog 194 #[.int .u64 n, .int .i64 4, .int .i64 w] W (Ret (SplitQ W 16 n w)) := by
  obtain ⟨i0, hi, hz, hsz, hby⟩ := info_parts (P := Try.prog) (e := 5) (z := .int .u8 0) (size := 1) (bytes := 1) (by kernel_rfl)
  have hmk : ∀ W : World, (Instr.makeSlice 207 (.int .i64 (w : Int)) (.int .i64 (w : Int))).run Try.prog W = .ok (.slice (some ⟨W.heap.size, 0, none⟩) w w) (W.alloc (.cells (half 16 n w 0).toArray 5)) := by
    intro W
    have := run_make_n (P := Try.prog) 207 5 Try.underlying207 hi hz w (by rw [hby]; omega) (by omega) W
    rw [this, hsz, Nat.mul_one, half_start]
    have e2 : madeCells (Value.int .u8 0).cells w = (List.replicate w (.int .u8 0)).toArray := by
      apply Array.toList_inj.1
      rw [show (Value.int .u8 0).cells = #[Value.int .u8 0] from rfl, toList_madeCells_one]
    rw [e2]
  clear hi hz hsz hby
  have hx0 : Blk (W.alloc (.cells (half 16 n w 0).toArray 5)) W.heap.size (half 16 n w 0).toArray 5 := Blk.new _ _ _
  have HX0 := hid hx0
  clear hx0
  obtain ⟨X0, hX0⟩ : ∃ X, X = (half 16 n w 0).toArray := ⟨_, rfl⟩
  rw [← hX0] at hmk
  have HXX := hid hX0
  clear hX0
  go_enter Try.func194, Try.ntmps194
  go_wp2_with fail
  go_loopw [0, 12] (fun x i wr => ∃ k m : Nat, k ≤ w ∧ i = .int .i64 k ∧ x = .int .u64 m ∧ m < 18446744073709551616 ∧ m = n / 16 ^ k ∧ Below W.heap.size W wr ∧ Blk wr W.heap.size (half 16 n w k).toArray 5) (fun _ i _ => w - (intOf i).toNat)
  case atStart => exact ⟨0, n, Nat.zero_le _, rfl, rfl, hn, by simp, by go_grown, by rw [HXX.out]; exact HX0.out⟩
  case round =>
    obtain ⟨k, m, hk, rfl, rfl, hm, hmn, hb, hx⟩ := hrel
    have HMN := hid hmn
    have HB := hid hb
    have HX := hid hx
    by_cases hlt : k < w
    · have c0 : wr.cell? ⟨W.heap.size, w - 1 - k, none⟩ = some ((half 16 n w k).toArray[w - 1 - k]'(by simp [half_length 16 n w k hk]; omega)) := by
        rw [hx.cell, Array.getElem?_eq_getElem]
      have f0 := hx.free (w - 1 - k)
      have e1 := and15 m
      have hnx := half_next 16 n w k hlt
      rw [← hmn] at hnx
      have HNX := hid hnx
      generalize (half 16 n w k).toArray[w - 1 - k]'(by simp [half_length 16 n w k hk]; omega) = u at c0
      clear hmn hb hx hnx hmk
      go_wp2_with fail
      go_roundw
      case rel =>
        refine ⟨k + 1, m / 16, by omega, by go_num, by go_num, by omega, ?_, ?_, ?_⟩
        · rw [HMN.out, Nat.div_div_eq_div_mul, Nat.pow_succ]
        · exact HB.out.setCell (Nat.le_refl _) _
        · have := HX.out.set (w - 1 - k) (.int .u8 ((m % 16 : Nat) : Int))
          rw [HNX.out] at this
          first | exact this | (simpa using this)
      case measure => simp [intOf]; omega
    · obtain rfl : k = w := by omega
      clear hmn hb hx
      go_wp2_with fail
      go_ret
      exact ⟨_, rfl, rfl, HB.out, by have := HX.out; rwa [half_end] at this⟩


def hexd (d : Nat) : Nat := if d < 10 then 48 + d else 87 + d
theorem hexd_lt (d : Nat) (h : d < 16) : hexd d < 256 := by unfold hexd; split <;> omega

theorem digit_at (d : Nat) (hd : d < 16) (W : World) : (Instr.index 9 (.string ⟨#[48, 49, 50, 51, 52, 53, 54, 55, 56, 57, 97, 98, 99, 100, 101, 102]⟩) (.int .u8 (d : Int))).run Try.prog W = .ok (.int .u8 (hexd d : Nat)) W := by
  match d, hd with
  | 0, _ => (show _ = _); kernel_rfl
  | 1, _ => (show _ = _); kernel_rfl
  | 2, _ => (show _ = _); kernel_rfl
  | 3, _ => (show _ = _); kernel_rfl
  | 4, _ => (show _ = _); kernel_rfl
  | 5, _ => (show _ = _); kernel_rfl
  | 6, _ => (show _ = _); kernel_rfl
  | 7, _ => (show _ = _); kernel_rfl
  | 8, _ => (show _ = _); kernel_rfl
  | 9, _ => (show _ = _); kernel_rfl
  | 10, _ => (show _ = _); kernel_rfl
  | 11, _ => (show _ = _); kernel_rfl
  | 12, _ => (show _ = _); kernel_rfl
  | 13, _ => (show _ = _); kernel_rfl
  | 14, _ => (show _ = _); kernel_rfl
  | 15, _ => (show _ = _); kernel_rfl
  | n + 16, h => exact absurd h (by omega)

def turned (l : List Nat) (k : Nat) : List Nat := (l.take k).map hexd ++ l.drop k
theorem turned_len (l : List Nat) (k : Nat) (h : k ≤ l.length) : (turned l k).length = l.length := by simp [turned]; omega
theorem turned_get (l : List Nat) (k : Nat) (h : k < l.length) : (bytes (turned l k)).toArray[k]? = some (.int .u8 (l[k] : Nat)) := by
  simp [bytes, turned]
  rw [List.getElem?_append_right (by simp; omega)]
  simp [h, Nat.min_eq_left (Nat.le_of_lt h)]
theorem turned_next (l : List Nat) (k : Nat) (h : k < l.length) : (bytes (turned l k)).toArray.setIfInBounds k (.int .u8 (hexd l[k] : Nat)) = (bytes (turned l (k + 1))).toArray := by
  rw [List.setIfInBounds_toArray]
  congr 1
  unfold bytes turned
  rw [← List.map_set (f := fun (d : Nat) => Value.int .u8 (d : Int)) (a := hexd l[k])]
  congr 1
  rw [List.set_append_right _ _ (by simp; omega), List.take_succ_eq_append_getElem h, List.map_append, List.append_assoc]
  congr 1
  rw [show k - ((l.take k).map hexd).length = 0 by simp; omega, List.drop_eq_getElem_cons h]
  rfl

def hexR (n : Nat) (w : Int) : ByteArray × Int :=
  if 1 ≤ w ∧ w ≤ 16 then (if n < 16 ^ w.toNat then (ofNats ((Oct.dg 16 n w.toNat).map hexd), 0) else (ByteArray.empty, 12)) else (ByteArray.empty, 2)

set_option maxRecDepth 100000 in
theorem hex_any (n : Nat) (w : Int) (W : World) (hn : n < 18446744073709551616) :
    Calls Try.prog 136 #[.int .u64 n, .int .i64 w] W fun e w' => e = .returned (.tuple #[.string (hexR n w).1, .int .i64 (hexR n w).2]) ∧ Below W.heap.size W w' := by
  by_cases h0 : w < 1
  · have hr : Hid (hexR n w = (ByteArray.empty, 2)) := by show _ = _; unfold hexR; rw [if_neg (by omega)]
    go_enter Try.func136, Try.ntmps136
    go_wp2_with fail
    go_ret2
    exact ⟨by rw [hr.out]; rfl, Below.refl _ _⟩
  by_cases h8 : 16 < w
  · have hr : Hid (hexR n w = (ByteArray.empty, 2)) := by show _ = _; unfold hexR; rw [if_neg (by omega)]
    go_enter Try.func136, Try.ntmps136
    go_wp2_with fail
    go_ret2
    exact ⟨by rw [hr.out]; rfl, Below.refl _ _⟩
  obtain ⟨k, rfl⟩ := Int.eq_ofNat_of_zero_le (show 0 ≤ w by omega)
  have hk1 : 1 ≤ k := by omega
  have hk8 : k ≤ 16 := by omega
  clear h0 h8
  by_cases hlt : n < 16 ^ k
  · have hr : Hid (hexR n k = (ofNats ((Oct.dg 16 n k).map hexd), 0)) := by show _ = _; unfold hexR; rw [if_pos (by omega), Int.toNat_natCast, if_pos hlt]
    have hd : decide (n < 16 ^ k) = true := by simpa using hlt
    have HD := hid hd
    obtain ⟨l, hl⟩ : ∃ l, l = Oct.dg 16 n k := ⟨_, rfl⟩
    have hll : l.length = k := by rw [hl, Oct.dg_length]
    have hdl : ∀ d ∈ l, d < 16 := by rw [hl]; exact Oct.dg_lt 16 n (by decide) k
    rw [← hl] at hr
    have HL := hid hl
    have HLL := hid hll
    have HDL := hid hdl
    clear hlt hd hl hll hdl
    go_enter Try.func136, Try.ntmps136
    go_wp2_with fail
    refine (within4 n k _ hn hk1 hk8).mono ?_
    rw [HD.out]
    rintro e w' ⟨rfl, rfl⟩
    go_wp2_with fail
    refine (split4 n k _ hn hk1 hk8).mono ?_
    rintro e w1 ⟨v, rfl, rfl, hb1, hx1⟩
    have HB1 := hid hb1
    have HX1 := hid hx1
    clear hb1 hx1
    go_wp2_with fail
    go_loopw [24] (fun i wr => ∃ j : Nat, j ≤ k ∧ i = .int .i64 j ∧ Below W.heap.size W wr ∧ Blk wr W.heap.size (bytes (turned l j)).toArray 5) (fun i _ => k - (intOf i).toNat)
    case atStart => exact ⟨0, Nat.zero_le _, rfl, HB1.out, by rw [HL.out]; simpa [turned] using HX1.out⟩
    case round =>
      obtain ⟨j, hj, rfl, hb, hx⟩ := hrel
      have HB := hid hb
      have HX := hid hx
      by_cases hlt : j < k
      · have hjl : j < l.length := by rw [HLL.out]; exact hlt
        have c0 : wr.cell? ⟨W.heap.size, j, none⟩ = some (.int .u8 (l[j] : Nat)) := by rw [hx.cell, turned_get l j hjl]
        have f0 := hx.free j
        have hdj := HDL.out l[j] (List.getElem_mem hjl)
        have hnx := turned_next l j hjl
        have hat := fun W => digit_at l[j] hdj W
        have HNX := hid hnx
        generalize l[j] = d at c0 hdj hat HNX
        clear hb hx hnx
        go_wp2_with fail
        go_roundw
        case rel =>
          refine ⟨j + 1, by omega, by go_num, HB.out.setCell (Nat.le_refl _) _, ?_⟩
          have := HX.out.set j (.int .u8 (hexd d : Nat))
          rw [HNX.out] at this
          exact this
        case measure => simp [intOf]; omega
      · obtain rfl : j = k := by omega
        have hxx : Blk wr W.heap.size (bytes (l.map hexd)).toArray 5 := by
          have := hx; unfold turned at this; rwa [← HLL.out, List.take_length, List.drop_length, List.append_nil] at this
        have hc := back8 wr W.heap.size (l.map hexd) (fun d hd => by
          obtain ⟨x, hx', rfl⟩ := List.mem_map.1 hd
          exact hexd_lt x (HDL.out x hx')) hxx j
        rw [List.length_map, HLL.out] at hc
        clear hb hx hxx
        go_wp2_with fail
        go_ret2
        exact ⟨by rw [hr.out]; rfl, HB.out⟩
  · have hr : Hid (hexR n k = (ByteArray.empty, 12)) := by show _ = _; unfold hexR; rw [if_pos (by omega), Int.toNat_natCast, if_neg hlt]
    have hd : decide (n < 16 ^ k) = false := by simpa using hlt
    have HD := hid hd
    clear hlt hd
    go_enter Try.func136, Try.ntmps136
    go_wp2_with fail
    refine (within4 n k _ hn hk1 hk8).mono ?_
    rw [HD.out]
    rintro e w' ⟨rfl, rfl⟩
    go_wp2_with fail
    go_ret2
    exact ⟨by rw [hr.out]; rfl, Below.refl _ _⟩

def hv (c : Nat) : Nat := if 48 ≤ c ∧ c ≤ 57 then c - 48 else if 97 ≤ c ∧ c ≤ 102 then c - 87 else 16
set_option maxRecDepth 100000 in
theorem value_any (c : Nat) (W : World) (hc : c < 256) : Calls Try.prog 191 #[.int .u8 c] W fun e w' => e = .returned (.int .u64 (hv c : Nat)) ∧ W = w' := by
  by_cases h1 : 48 ≤ c ∧ c ≤ 57
  · have hh : Hid (((hv c : Nat) : Int) = (c : Int) - 48) := by show _ = _; unfold hv; rw [if_pos h1]; omega
    obtain ⟨g1, g2⟩ := h1
    go_enter Try.func191, Try.ntmps191
    go_wp2_with fail
    go_ret
    exact ⟨by rw [hh.out]; rfl, rfl⟩
  · by_cases h2 : 97 ≤ c ∧ c ≤ 102
    · have hh : Hid (((hv c : Nat) : Int) = (c : Int) - 97 + 10) := by show _ = _; unfold hv; rw [if_neg h1, if_pos h2]; omega
      obtain ⟨g1, g2⟩ := h2
      have g3 : ¬ c ≤ 57 := by omega
      clear h1
      go_enter Try.func191, Try.ntmps191
      go_wp2_with fail
      go_ret
      exact ⟨by rw [hh.out]; rfl, rfl⟩
    · have hh : Hid (hv c = 16) := by show _ = _; unfold hv; rw [if_neg h1, if_neg h2]
      have hcs : c < 48 ∨ (58 ≤ c ∧ c < 97) ∨ 103 ≤ c := by omega
      clear h1 h2
      rcases hcs with g | ⟨g1, g2⟩ | g
      all_goals
        go_enter Try.func191, Try.ntmps191
        go_wp2_with fail
        go_ret
        exact ⟨by rw [hh.out]; rfl, rfl⟩
end C01
end Go.Proofs.Ytpamnknfccmgcaa
