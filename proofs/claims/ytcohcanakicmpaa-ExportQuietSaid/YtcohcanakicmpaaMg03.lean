/- Walks of layer 6 (ids): numbers as texts and texts as numbers; no condition. Walks of layer 6 (ids): whether a trace is none, which trace a text is, what is drawn; no condition. Walks of layer 4 (head): what names and values may be; no condition. Spans as plain data, and what cells of them read as. No program in sight. Walks of layer 30 (store): lists of spans compared, cloned; no condition. Walks of layer 25 (buffer): lists of spans copied and compared; no condition. Walks of layer 25 (buffer): a span put; how many wait, how many were lost; no condition. Walks of layer 25 (buffer): a span put where there is room; no condition. Walks of layer 9 (spanrec): whether a span may be; no condition. Walks of layer 9 (spanrec): a span's bytes; no condition. Walks of layer 9 (spanrec): a span's bytes, the document's; no condition. -/
import Derived.Test.YtcohcanakicmpaaMg01
import Derived.Test.YtcohcanakicmpaaMg02
import Derived.Test.YtcohcanakicmpaaChecked
import Derived.Deep.QuietTactic
import Derived.Test.YtcohcanakicmpaaProg
import Derived.StillTailTactics
import Derived.Laws.LoneSync
import Derived.Deep.RegionLaw
import Derived.Laws.IdiomCopy
import Derived.Lib.MinMax
import Derived.Maps.AppendAt
import Derived.Deep.Cut
namespace Go.Proofs.Ytcohcanakicmpaa
open Go.RowKit Go.Peri
namespace C06
open C01

/-- A number's sixteen digits. -/
def txt (n : Nat) : ByteArray := ofNats ((Oct.dg 16 n 16).map hexd)
theorem txt_size (n : Nat) : (txt n).size = 16 := by unfold txt; rw [ofNats_size, List.length_map, Oct.dg_length]
theorem hex_txt (n : Nat) (hn : n < 18446744073709551616) : hexR n 16 = (txt n, 0) := by
  unfold hexR; rw [if_pos (by omega), show (16 : Int).toNat = 16 from rfl, if_pos (by omega)]; rfl

def halfR (s : ByteArray) : Nat × Bool := ((unhexR s).1, (unhexR s).2 == 0 && decide (s.size = 16))
def spanOfR (s : ByteArray) : Nat × Int := if s.size = 16 ∧ (unhexR s).2 = 0 then (if (unhexR s).1 = 0 then (0, 11) else ((unhexR s).1, 0)) else (0, 3)
end C06
end Go.Proofs.Ytcohcanakicmpaa
namespace Go.Proofs.Ytcohcanakicmpaa
open Go.RowKit Go.Peri
namespace C06
open C01

theorem eq56 (a b c d : Int) (w : World) : (Op.equalIn 10000 35 (.agg #[.int .u64 a, .int .u64 b]) (.agg #[.int .u64 c, .int .u64 d])).run Try.prog w = .ok (a == c && b == d) w := by
  have u3 := Try.underlying33
  have a3 := Try.isAgg33
  have z3 := Try.sizeOf33
  rw [show (10000 : Nat) = 9999 + 1 from rfl, run_equalIn_struct w 9999 35 _ _ (by kernel_rfl) (by kernel_rfl)]
  simp only [Program.fieldsOf, Try.underlying35, Op.eqFields]
  go_simp
  by_cases h1 : a = c <;> by_cases h2 : b = d <;> simp [h1, h2]

def zeroR (hi lo : Nat) : Bool := decide (hi = 0 ∧ lo = 0)
theorem zero_or (hi lo : Nat) (h1 : hi < 18446744073709551616) (h2 : lo < 18446744073709551616) : (bits .or .u64 (hi : Int) (lo : Int) == 0) = zeroR hi lo := by
  rw [u64_or_nat _ _ h1 h2]
  unfold zeroR
  by_cases h : hi ||| lo = 0
  · have := Nat.or_eq_zero_iff.1 h
    simp [this.1, this.2]
  · have h3 := mt Nat.or_eq_zero_iff.2 h
    simp only [h3, decide_false, beq_eq_false_iff_ne]
    omega
set_option maxRecDepth 100000 in
theorem zero_any (hi lo : Nat) (W : World) (h1 : hi < 18446744073709551616) (h2 : lo < 18446744073709551616) :
    Calls Try.prog 44 #[.agg #[.int .u64 hi, .int .u64 lo]] W fun e w' => e = .returned (.bool (zeroR hi lo)) ∧ Below W.heap.size W w' := by
  have HZ := hid (zero_or hi lo h1 h2)
  go_enter Try.func44, Try.ntmps44
  go_wp2_with fail
  go_ret
  exact ⟨ret_bool HZ.out, by go_grown⟩
theorem zero_eq (hi lo : Nat) : ((hi : Int) == 0 && (lo : Int) == 0) = zeroR hi lo := by
  unfold zeroR
  by_cases a : hi = 0 <;> by_cases b : lo = 0 <;> simp [a, b]
set_option maxRecDepth 100000 in
theorem rzero_any (hi lo : Nat) (W : World) :
    Calls Try.prog 25 #[.agg #[.int .u64 hi, .int .u64 lo]] W fun e w' => e = .returned (.bool (zeroR hi lo)) ∧ Below W.heap.size W w' := by
  have HZ := hid (zero_eq hi lo)
  have q := eq56
  go_enter Try.func25, Try.ntmps25
  go_wp2_with fail
  go_ret
  exact ⟨ret_bool HZ.out, by go_grown⟩

def natVals (zs : List Nat) : List Value := zs.map fun (d : Nat) => Value.int .u64 (d : Int)
def atR (zs : List Nat) (n : Int) : Nat := if 0 ≤ n ∧ n < zs.length then zs.getD n.toNat 0 else 4294967296 + n.toNat
theorem nats_parts {B : Nat} {w : World} {v : Value} {zs : List Nat} (h : IsVals B w v (natVals zs)) : ∃ a cap, v = .slice a zs.length cap ∧ zs.length ≤ cap ∧ cap ≤ maxLen ∧ (a = none → cap = 0) ∧
    (zs = [] ∨ ∃ b off, a = some ⟨b, off, none⟩ ∧ b < B ∧ ∀ i, i < zs.length → w.cell? ⟨b, off + i, none⟩ = some (.int .u64 (zs.getD i 0 : Nat))) := by
  obtain ⟨a, cap, h1, h2, h3, h4, h5⟩ := h
  have hl : (natVals zs).length = zs.length := by simp [natVals]
  rw [hl] at h1 h2
  refine ⟨a, cap, h1, h2, h3, h4, ?_⟩
  rcases h5 with h5 | ⟨b, off, e1, e2, e3⟩
  · left; simpa [natVals] using h5
  · refine .inr ⟨b, off, e1, e2, fun i hi => ?_⟩
    rw [e3 i (by rw [hl]; exact hi)]
    simp [natVals, hi]

end C06
end Go.Proofs.Ytcohcanakicmpaa
namespace Go.Peri
namespace Hd
theorem nameB_in {b : UInt8} (h : b.toNat = 45 ∨ (48 ≤ b.toNat ∧ b.toNat ≤ 57) ∨ (97 ≤ b.toNat ∧ b.toNat ≤ 122)) : nameB b = true := by
  unfold nameB
  simp only [Bool.or_eq_true, Bool.and_eq_true, decide_eq_true_eq, beq_iff_eq, UInt8.le_iff_toNat_le, ← UInt8.toNat_inj]
  simpa [or_assoc] using h
theorem nameB_out {b : UInt8} (h : ¬ (b.toNat = 45 ∨ (48 ≤ b.toNat ∧ b.toNat ≤ 57) ∨ (97 ≤ b.toNat ∧ b.toNat ≤ 122))) : nameB b = false := by
  rw [Bool.eq_false_iff]
  intro h2
  apply h
  unfold nameB at h2
  simp only [Bool.or_eq_true, Bool.and_eq_true, decide_eq_true_eq, beq_iff_eq, UInt8.le_iff_toNat_le, ← UInt8.toNat_inj] at h2
  simpa [or_assoc] using h2
theorem valueB_in {b : UInt8} (h : 32 ≤ b.toNat ∧ b.toNat ≤ 126) : valueB b = true := by
  unfold valueB
  simp only [Bool.and_eq_true, decide_eq_true_eq, UInt8.le_iff_toNat_le]
  simpa using h
theorem valueB_out {b : UInt8} (h : ¬ (32 ≤ b.toNat ∧ b.toNat ≤ 126)) : valueB b = false := by
  rw [Bool.eq_false_iff]
  intro h2
  apply h
  unfold valueB at h2
  simp only [Bool.and_eq_true, decide_eq_true_eq, UInt8.le_iff_toNat_le] at h2
  simpa using h2
theorem notEmpty {s : ByteArray} (h0 : ¬ s.size = 0) : s.toList.isEmpty = false := by
  rw [Bool.eq_false_iff]; intro h
  apply h0
  rw [List.isEmpty_iff, ByteArray.toList_eq] at h
  have := congrArg List.length h
  simpa using this
theorem u8_ne32 (b : UInt8) : (b != 32) = ((b.toNat : Int) != 32) := by
  by_cases h : b = 32
  · subst h; rfl
  · have h2 : ¬ (b.toNat : Int) = 32 := fun e => h (UInt8.toNat_inj.1 (by show b.toNat = 32; omega))
    rw [bne, bne, beq_eq_false_iff_ne.2 h, beq_eq_false_iff_ne.2 h2]
theorem valueOk_ends (s : ByteArray) (h1 : s.size ≤ 64) (hall : s.data.toList.all valueB = true) (hp : 0 < s.size) (hl : s.size - 1 < s.size) :
    valueOk s = ((((s[0]'hp).toNat : Int) != 32) && (((s[s.size - 1]'hl).toNat : Int) != 32)) := by
  have o : ∀ a : UInt8, (some a != some 32) = (a != 32) := fun _ => rfl
  unfold valueOk
  have hne : ¬ s.size = 0 := by omega
  have e1 : s.data.toList.head? = some s[0] := by
    rw [List.head?_eq_getElem?, List.getElem?_eq_getElem (by simpa using hp)]; rfl
  have e2 : s.data.toList.getLast? = some (s[s.size - 1]'hl) := by
    rw [List.getLast?_eq_getElem?, List.getElem?_eq_getElem (by simpa using hl)]; rfl
  rw [hall, e1, e2, decide_eq_true h1, decide_eq_false hne, ← u8_ne32, ← u8_ne32, o, o]
  simp
end Hd
end Go.Peri
namespace Go.Proofs.Ytcohcanakicmpaa
open Go.RowKit Go.Peri
namespace C04

set_option maxRecDepth 100000 in
theorem lit_name (b : UInt8) (w : World) : Calls Try.prog 73 #[.int .u8 b.toNat] w fun e w' => e = .returned (.bool (Hd.nameB b)) ∧ w = w' := by
  have hb := b.toNat_lt
  by_cases h0 : b.toNat = 45
  · rw [h0]
    have HV : Hid (Hd.nameB b = true) := hid (Hd.nameB_in (by omega))
    go_enter Try.func73, Try.ntmps73
    go_wp2
    go_ret
    exact ⟨by rw [HV.out]; first | rfl | (refine ret_bool ?_; simp; omega), rfl⟩
  have e1 : ((b.toNat : Int) == 45) = false := by rw [beq_eq_false_iff_ne]; omega
  by_cases h1 : b.toNat < 48
  · have HV : Hid (Hd.nameB b = false) := hid (Hd.nameB_out (by omega))
    go_enter Try.func73, Try.ntmps73
    go_wp2
    go_ret
    exact ⟨by rw [HV.out]; first | rfl | (refine ret_bool ?_; simp; omega), rfl⟩
  by_cases h2 : b.toNat ≤ 57
  · have HV : Hid (Hd.nameB b = true) := hid (Hd.nameB_in (by omega))
    go_enter Try.func73, Try.ntmps73
    go_wp2
    go_ret
    exact ⟨by rw [HV.out]; first | rfl | (refine ret_bool ?_; simp; omega), rfl⟩
  by_cases h3 : b.toNat < 97
  · have HV : Hid (Hd.nameB b = false) := hid (Hd.nameB_out (by omega))
    go_enter Try.func73, Try.ntmps73
    go_wp2
    go_ret
    exact ⟨by rw [HV.out]; first | rfl | (refine ret_bool ?_; simp; omega), rfl⟩
  by_cases h4 : b.toNat ≤ 122
  · have HV : Hid (Hd.nameB b = true) := hid (Hd.nameB_in (by omega))
    go_enter Try.func73, Try.ntmps73
    go_wp2
    go_ret
    exact ⟨by rw [HV.out]; first | rfl | (refine ret_bool ?_; simp; omega), rfl⟩
  have HV : Hid (Hd.nameB b = false) := hid (Hd.nameB_out (by omega))
  go_enter Try.func73, Try.ntmps73
  go_wp2
  go_ret
  exact ⟨by rw [HV.out]; first | rfl | (refine ret_bool ?_; simp; omega), rfl⟩

set_option maxRecDepth 100000 in
theorem every_name (s : ByteArray) (r : Bool) (w : World) (hs : s.size ≤ 1000000000000000) (hr : s.data.toList.all Hd.nameB = r) : Calls Try.prog 72 #[.string s, .func (.func 73) #[] #[]] w fun e w' => e = .returned (.bool r) ∧ w = w' := by
  have HR := hid hr
  clear hr
  go_enter Try.func72, Try.ntmps72
  go_wp2_with fail
  go_loopw [8] (fun i wr => w = wr ∧ ∃ k : Nat, k ≤ s.size ∧ i = .int .i64 k ∧ (s.data.toList.take k).all Hd.nameB = true) (fun i _ => s.size - (intOf i).toNat)
  case atStart => exact ⟨rfl, 0, Nat.zero_le _, rfl, by simp⟩
  case round =>
    obtain ⟨rfl, k, hk, rfl, hall⟩ := hrel
    have HA := hid hall
    clear hall
    by_cases hlt : k < s.size
    · have hlt' : k < s.data.toList.length := by simpa using hlt
      have e1 : s.data.toList[k] = s[k] := rfl
      have HNext : Hid (Hd.nameB s[k] = true → (s.data.toList.take (k + 1)).all Hd.nameB = true) := hid (fun h => Hd.all_snoc hlt' HA.out (by rw [e1]; exact h))
      have HHit : Hid (Hd.nameB s[k] = false → s.data.toList.all Hd.nameB = false) := hid (fun h => Hd.all_hit hlt' (by rw [e1]; exact h))
      clear e1
      have HLit := hid (lit_name s[k] w)
      obtain ⟨bq, hq⟩ : ∃ bq, Hd.nameB s[k] = bq := ⟨_, rfl⟩
      rw [hq] at HLit HNext HHit
      clear hq
      cases bq
      · go_wp2_with (go_at_call 73; refine HLit.out.mono ?_; rintro e w1 ⟨rfl, rfl⟩)
        go_ret
        exact ⟨by rw [← HR.out, HHit.out (by first | rfl | trivial)]; rfl, rfl⟩
      · go_wp2_with (go_at_call 73; refine HLit.out.mono ?_; rintro e w1 ⟨rfl, rfl⟩)
        go_roundw
        case rel => exact ⟨by first | rfl | trivial, k + 1, by omega, by go_num, HNext.out (by first | rfl | trivial)⟩
        case measure => simp [intOf]; omega
    · obtain rfl : k = s.size := by omega
      have hd : Hid (s.data.toList.all Hd.nameB = true) := hid (by have := HA.out; rwa [List.take_of_length_le (by simp)] at this)
      go_wp2_with fail
      go_ret
      exact ⟨by rw [← HR.out, hd.out]; rfl, rfl⟩

set_option maxRecDepth 100000 in
theorem name_any (s : ByteArray) (w : World) (hs : s.size ≤ 1000000000000000) : Calls Try.prog 45 #[.string s] w fun e w' => e = .returned (.bool (Hd.nameOk s)) ∧ w = w' := by
  by_cases h0 : s.size = 0
  · have hr : Hid (Hd.nameOk s = false) := hid (by unfold Hd.nameOk; simp [h0])
    have hem : s = ByteArray.empty := by
      have : s.data = #[] := Array.eq_empty_of_size_eq_zero h0
      exact ByteArray.ext this
    subst hem
    go_enter Try.func45, Try.ntmps45
    go_wp2_with fail
    go_ret
    exact ⟨by rw [hr.out]; rfl, rfl⟩
  · have t1 : s.toList.isEmpty = false := by
      rw [Bool.eq_false_iff]; intro h
      apply h0
      rw [List.isEmpty_iff, ByteArray.toList_eq] at h
      have := congrArg List.length h
      simpa using this
    have t2 : (!s.toList.isEmpty) = true := by rw [t1]; rfl
    have t3 : ¬ s.toList = [] := by rw [← List.isEmpty_iff, t1]; simp
    by_cases h1 : s.size ≤ 32
    · have hr : Hid (Hd.nameOk s = s.data.toList.all Hd.nameB) := hid (by unfold Hd.nameOk; simp [h1]; omega)
      obtain ⟨r, hq⟩ : ∃ r, s.data.toList.all Hd.nameB = r := ⟨_, rfl⟩
      have HE := hid (every_name s r w hs hq)
      have HQ := hid hq
      clear hq
      go_enter Try.func45, Try.ntmps45
      go_wp2_with fail
      refine HE.out.mono ?_
      rintro e w' ⟨rfl, rfl⟩
      go_wp2_with fail
      go_ret
      exact ⟨by rw [hr.out, HQ.out]; rfl, rfl⟩
    · have hr : Hid (Hd.nameOk s = false) := hid (by unfold Hd.nameOk; simp [h1])
      go_enter Try.func45, Try.ntmps45
      go_wp2_with fail
      go_ret
      exact ⟨by rw [hr.out]; rfl, rfl⟩

set_option maxRecDepth 100000 in
theorem rname_any (s : ByteArray) (w : World) (hs : s.size ≤ 1000000000000000) : Calls Try.prog 26 #[.string s] w fun e w' => e = .returned (.bool (Hd.nameOk s)) ∧ w = w' := by
  by_cases h0 : s.size < 1
  · have hr : Hid (Hd.nameOk s = false) := hid (by unfold Hd.nameOk; simp; omega)
    go_enter Try.func26, Try.ntmps26
    go_wp2_with fail
    go_ret
    exact ⟨by rw [hr.out]; rfl, rfl⟩
  by_cases h1 : 32 < s.size
  · have hr : Hid (Hd.nameOk s = false) := hid (by unfold Hd.nameOk; simp; omega)
    go_enter Try.func26, Try.ntmps26
    go_wp2_with fail
    go_ret
    exact ⟨by rw [hr.out]; rfl, rfl⟩
  have hr : Hid (Hd.nameOk s = s.data.toList.all Hd.nameB) := hid (by unfold Hd.nameOk; simp; omega)
  go_enter Try.func26, Try.ntmps26
  go_wp2_with fail
  go_loopw [3] (fun i wr => w = wr ∧ ∃ k : Nat, k ≤ s.size ∧ i = .int .i64 k ∧ (s.data.toList.take k).all Hd.nameB = true) (fun i _ => s.size - (intOf i).toNat)
  case atStart => exact ⟨rfl, 0, Nat.zero_le _, rfl, by simp⟩
  case round =>
    obtain ⟨rfl, k, hk, rfl, hall⟩ := hrel
    have HA := hid hall
    clear hall
    by_cases hlt : k < s.size
    · have hlt' : k < s.data.toList.length := by simpa using hlt
      have e1 : s.data.toList[k] = s[k] := rfl
      have HNext : Hid (Hd.nameB s[k] = true → (s.data.toList.take (k + 1)).all Hd.nameB = true) := hid (fun h => Hd.all_snoc hlt' HA.out (by rw [e1]; exact h))
      have HHit : Hid (Hd.nameB s[k] = false → Hd.nameOk s = false) := hid (fun h => by rw [hr.out]; exact Hd.all_hit hlt' (by rw [e1]; exact h))
      clear e1
      have hb := (s[k]'hlt).toNat_lt
      by_cases g0 : (s[k]'hlt).toNat = 45
      · have HV := hid (HNext.out (Hd.nameB_in (by omega)))
        have e1 : (((s[k]'hlt).toNat : Int) != 45) = false := by rw [g0]; rfl
        go_wp2_with fail
        go_roundw
        case rel => exact ⟨by first | rfl | trivial, k + 1, by omega, by go_num, HV.out⟩
        case measure => simp [intOf]; omega
      have e1 : (((s[k]'hlt).toNat : Int) != 45) = true := by rw [bne, beq_eq_false_iff_ne.2 (by omega)]; rfl
      by_cases g1 : (s[k]'hlt).toNat < 48
      · have HV := hid (HHit.out (Hd.nameB_out (by omega)))
        go_wp2_with fail
        go_ret
        exact ⟨by rw [HV.out]; rfl, rfl⟩
      by_cases g2 : (s[k]'hlt).toNat ≤ 57
      · have HV := hid (HNext.out (Hd.nameB_in (by omega)))
        go_wp2_with fail
        go_roundw
        case rel => exact ⟨by first | rfl | trivial, k + 1, by omega, by go_num, HV.out⟩
        case measure => simp [intOf]; omega
      by_cases g3 : (s[k]'hlt).toNat < 97
      · have HV := hid (HHit.out (Hd.nameB_out (by omega)))
        go_wp2_with fail
        go_ret
        exact ⟨by rw [HV.out]; rfl, rfl⟩
      by_cases g4 : (s[k]'hlt).toNat ≤ 122
      · have HV := hid (HNext.out (Hd.nameB_in (by omega)))
        go_wp2_with fail
        go_roundw
        case rel => exact ⟨by first | rfl | trivial, k + 1, by omega, by go_num, HV.out⟩
        case measure => simp [intOf]; omega
      · have HV := hid (HHit.out (Hd.nameB_out (by omega)))
        go_wp2_with fail
        go_ret
        exact ⟨by rw [HV.out]; rfl, rfl⟩
    · obtain rfl : k = s.size := by omega
      have hd : Hid (Hd.nameOk s = true) := hid (by have := HA.out; rw [List.take_of_length_le (by simp)] at this; rw [hr.out]; exact this)
      go_wp2_with fail
      go_ret
      exact ⟨by rw [hd.out]; rfl, rfl⟩

end C04
end Go.Proofs.Ytcohcanakicmpaa
namespace Go.Peri
open Go.RowKit
/-- A span. -/
structure Sp where
  hi : Nat
  lo : Nat
  id : Nat
  up : Nat
  name : ByteArray
  status : Int
  seq : Int
  kids : Int
  shadow : Bool
  start : Int
  stop : Int
namespace Sp
def enc (s : Sp) : List Value := [.int .u64 s.hi, .int .u64 s.lo, .int .u64 s.id, .int .u64 s.up, .string s.name, .int .i64 s.status, .int .i64 s.seq, .int .i64 s.kids, .bool s.shadow, .int .i64 s.start, .int .i64 s.stop]
theorem enc_length (s : Sp) : s.enc.length = 11 := rfl
instance : DecidableEq Sp := fun a b =>
  if h : a.hi = b.hi ∧ a.lo = b.lo ∧ a.id = b.id ∧ a.up = b.up ∧ a.name = b.name ∧ a.status = b.status ∧ a.seq = b.seq ∧ a.kids = b.kids ∧ a.shadow = b.shadow ∧ a.start = b.start ∧ a.stop = b.stop then
    .isTrue (by obtain ⟨⟩ := a; obtain ⟨⟩ := b; simp_all)
  else .isFalse (by rintro rfl; simp at h)
/-- Its type. -/
def ty : Ty := .cons (.cons (.int .u64) (.cons (.int .u64) .nil)) (.cons (.int .u64) (.cons (.int .u64) (.cons .str (.cons (.int .i64) (.cons (.int .i64) (.cons (.int .i64) (.cons .bool (.cons (.int .i64) (.cons (.int .i64) .nil)))))))))
def I64 (n : Int) : Prop := -9223372036854775808 ≤ n ∧ n ≤ 9223372036854775807
def U64 (n : Nat) : Prop := n < 18446744073709551616
structure Wf (s : Sp) : Prop where
  hi : U64 s.hi
  lo : U64 s.lo
  id : U64 s.id
  up : U64 s.up
  name : s.name.size ≤ 140737488351232
  status : I64 s.status
  seq : I64 s.seq
  kids : I64 s.kids
  start : I64 s.start
  stop : I64 s.stop
theorem rd_u64 {w : World} {B : Nat} {cs : List Value} (h : Rd w B (.int .u64) cs) : ∃ n : Nat, cs = [.int .u64 n] ∧ U64 n := by
  obtain ⟨n, rfl, hw⟩ := h
  have h : IntKind.u64.min ≤ n ∧ n ≤ IntKind.u64.max := by simpa [Lit.wf] using hw
  obtain ⟨h1, h2⟩ : 0 ≤ n ∧ n ≤ 18446744073709551615 := h
  exact ⟨n.toNat, by rw [Int.toNat_of_nonneg h1], by unfold U64; omega⟩
theorem rd_i64 {w : World} {B : Nat} {cs : List Value} (h : Rd w B (.int .i64) cs) : ∃ n : Int, cs = [.int .i64 n] ∧ I64 n := by
  obtain ⟨n, rfl, hw⟩ := h
  have h : IntKind.i64.min ≤ n ∧ n ≤ IntKind.i64.max := by simpa [Lit.wf] using hw
  exact ⟨n, rfl, h⟩
theorem rd_str {w : World} {B : Nat} {cs : List Value} (h : Rd w B .str cs) : ∃ s : ByteArray, cs = [.string s] ∧ s.size ≤ 140737488351232 := by
  obtain ⟨s, rfl, _, h2⟩ := h
  exact ⟨s, rfl, h2⟩
theorem of_rd {w : World} {B : Nat} {cs : List Value} (h : Rd w B ty cs) : ∃ s : Sp, cs = s.enc ∧ Wf s := by
  obtain ⟨_, _, rfl, _, h1, h⟩ := h
  obtain ⟨_, _, rfl, _, a1, h1⟩ := h1
  obtain ⟨_, _, rfl, _, a2, h1⟩ := h1
  obtain ⟨_, _, rfl, _, a3, h⟩ := h
  obtain ⟨_, _, rfl, _, a4, h⟩ := h
  obtain ⟨_, _, rfl, _, a5, h⟩ := h
  obtain ⟨_, _, rfl, _, a6, h⟩ := h
  obtain ⟨_, _, rfl, _, a7, h⟩ := h
  obtain ⟨_, _, rfl, _, a8, h⟩ := h
  obtain ⟨_, _, rfl, _, a9, h⟩ := h
  obtain ⟨_, _, rfl, _, a10, h⟩ := h
  obtain ⟨_, _, rfl, _, a11, h⟩ := h
  obtain ⟨hi, rfl, g1⟩ := rd_u64 a1
  obtain ⟨lo, rfl, g2⟩ := rd_u64 a2
  obtain ⟨id, rfl, g3⟩ := rd_u64 a3
  obtain ⟨up, rfl, g4⟩ := rd_u64 a4
  obtain ⟨name, rfl, g5⟩ := rd_str a5
  obtain ⟨status, rfl, g6⟩ := rd_i64 a6
  obtain ⟨seq, rfl, g7⟩ := rd_i64 a7
  obtain ⟨kids, rfl, g8⟩ := rd_i64 a8
  obtain ⟨shadow, rfl⟩ := a9
  obtain ⟨start, rfl, g10⟩ := rd_i64 a10
  obtain ⟨stop, rfl, g11⟩ := rd_i64 a11
  have e1 : (_ : List Value) = [] := h1
  have e2 : (_ : List Value) = [] := h
  subst e1 e2
  exact ⟨⟨hi, lo, id, up, name, status, seq, kids, shadow, start, stop⟩, rfl, ⟨g1, g2, g3, g4, g5, g6, g7, g8, g10, g11⟩⟩
end Sp
/-- An open span: its number, and the span. -/
structure Opn where
  no : Int
  sp : Sp
namespace Opn
def enc (o : Opn) : List Value := .int .i64 o.no :: o.sp.enc
theorem enc_length (o : Opn) : o.enc.length = 12 := rfl
instance : DecidableEq Opn := fun a b =>
  if h : a.no = b.no ∧ a.sp = b.sp then .isTrue (by obtain ⟨⟩ := a; obtain ⟨⟩ := b; simp_all) else .isFalse (by rintro rfl; simp at h)
def ty : Ty := .cons (.int .i64) (.cons Sp.ty .nil)
structure Wf (o : Opn) : Prop where
  no : Sp.I64 o.no
  sp : o.sp.Wf
theorem of_rd {w : World} {B : Nat} {cs : List Value} (h : Rd w B ty cs) : ∃ o : Opn, cs = o.enc ∧ Wf o := by
  obtain ⟨_, _, rfl, _, a1, h⟩ := h
  obtain ⟨_, _, rfl, _, a2, h⟩ := h
  obtain ⟨n, rfl, g1⟩ := Sp.rd_i64 a1
  obtain ⟨s, rfl, g2⟩ := Sp.of_rd a2
  have e1 : (_ : List Value) = [] := h
  subst e1
  exact ⟨⟨n, s⟩, by simp [enc], ⟨g1, g2⟩⟩
end Opn
end Go.Peri
namespace Go.Peri
open Go.RowKit
namespace Sp
theorem cells {y : Sp} {w : World} {b o : Nat} (h : ∀ j u, y.enc[j]? = some u → w.cell? ⟨b, o + j, none⟩ = some u) :
    w.cell? ⟨b, o, none⟩ = some (.int .u64 y.hi) ∧ w.cell? ⟨b, o + 1, none⟩ = some (.int .u64 y.lo) ∧ w.cell? ⟨b, o + 2, none⟩ = some (.int .u64 y.id) ∧ w.cell? ⟨b, o + 3, none⟩ = some (.int .u64 y.up) ∧ w.cell? ⟨b, o + 4, none⟩ = some (.string y.name) ∧ w.cell? ⟨b, o + 5, none⟩ = some (.int .i64 y.status) ∧ w.cell? ⟨b, o + 6, none⟩ = some (.int .i64 y.seq) ∧ w.cell? ⟨b, o + 7, none⟩ = some (.int .i64 y.kids) ∧ w.cell? ⟨b, o + 8, none⟩ = some (.bool y.shadow) ∧ w.cell? ⟨b, o + 9, none⟩ = some (.int .i64 y.start) ∧ w.cell? ⟨b, o + 10, none⟩ = some (.int .i64 y.stop) :=
  ⟨h 0 _ rfl, h 1 _ rfl, h 2 _ rfl, h 3 _ rfl, h 4 _ rfl, h 5 _ rfl, h 6 _ rfl, h 7 _ rfl, h 8 _ rfl, h 9 _ rfl, h 10 _ rfl⟩
theorem one (l : List Sp) : ∀ u ∈ l.flatMap Sp.enc, u.oneCell' = true := by
  intro u hu
  obtain ⟨o, _, ho⟩ := List.mem_flatMap.1 hu
  simp only [Sp.enc, List.mem_cons, List.not_mem_nil, or_false] at ho
  rcases ho with rfl | rfl | rfl | rfl | rfl | rfl | rfl | rfl | rfl | rfl | rfl <;> rfl
instance : Inhabited Sp := ⟨⟨0, 0, 0, 0, ByteArray.empty, 0, 0, 0, false, 0, 0⟩⟩
end Sp
end Go.Peri
namespace Go.Proofs.Ytcohcanakicmpaa
open Go.RowKit Go.Peri
namespace C30
theorem addr_add (b o j : Nat) : (⟨b, o, none⟩ : Addr).add j = ⟨b, o + j, none⟩ := by
  unfold Addr.add; split
  · rename_i hz; rw [hz]; rfl
  · rfl
theorem elemS : Elem Try.prog 43 37 11 96 := Elem.mk' (z := .agg #[.int .u64 0, .int .u64 0, .int .u64 0, .int .u64 0, .string ByteArray.empty, .int .i64 0, .int .i64 0, .int .i64 0, .bool false, .int .i64 0, .int .i64 0]) Try.underlying43 (by kernel_rfl) rfl (by decide)
theorem eqSp (a b : Sp) (w : World) : (Op.equalIn 10000 37 (.agg #[.int .u64 a.hi, .int .u64 a.lo, .int .u64 a.id, .int .u64 a.up, .string a.name, .int .i64 a.status, .int .i64 a.seq, .int .i64 a.kids, .bool a.shadow, .int .i64 a.start, .int .i64 a.stop]) (.agg #[.int .u64 b.hi, .int .u64 b.lo, .int .u64 b.id, .int .u64 b.up, .string b.name, .int .i64 b.status, .int .i64 b.seq, .int .i64 b.kids, .bool b.shadow, .int .i64 b.start, .int .i64 b.stop])).run Try.prog w = .ok (decide (a = b)) w := by
  rw [show (10000 : Nat) = 9999 + 1 from rfl, run_equalIn_struct w 9999 37 _ _ (by kernel_rfl) (by kernel_rfl)]
  simp only [Program.fieldsOf, Try.underlying37, Op.eqFields]
  go_simp
  have inj_name : a.name.toList = b.name.toList → a.name = b.name := fun h => Go.WideShapes.bytes_inj (by rw [← ByteArray.toList_eq, ← ByteArray.toList_eq, h])
  have ext : a.hi = b.hi → a.lo = b.lo → a.id = b.id → a.up = b.up → a.name.toList = b.name.toList → a.status = b.status → a.seq = b.seq → a.kids = b.kids → a.shadow = b.shadow → a.start = b.start → a.stop = b.stop → a = b := by
    intro h0 h1 h2 h3 h4 h5 h6 h7 h8 h9 h10
    have h4 := inj_name h4
    obtain ⟨⟩ := a
    obtain ⟨⟩ := b
    simp_all
  by_cases h : a = b
  · subst h; simp
  · rw [decide_eq_false h]
    repeat' (split <;> try rfl)
    exact absurd (ext (by omega) (by omega) (by omega) (by omega) (by assumption) (by assumption) (by assumption) (by assumption) (by assumption) (by assumption) (by assumption)) h
set_option maxRecDepth 100000 in
theorem ssame_any {p q : Nat → Prop} (u v : Value) (l m : List Sp) (r : Bool) (W : World) (h : RowsOf p Sp.enc 11 W u l) (hp : ∀ b, p b → b < W.heap.size) (h2 : RowsOf q Sp.enc 11 W v m) (hq : ∀ b, q b → b < W.heap.size) (hl : l.length ≤ 1000000000000) (hm : m.length ≤ 1000000000000)
    (hr : decide (l = m) = r) :
    Calls Try.prog 15 #[u, v] W fun e w' => e = .returned (.bool r) ∧ Below W.heap.size W w' := by
  obtain ⟨a, cap, rfl, hlc, hcm, _, hcell⟩ := h
  obtain ⟨a2, cap2, rfl, hlc2, hcm2, _, hcell2⟩ := h2
  have HP := hid hp
  have HQ := hid hq
  have HC := hid hcell
  have HC2 := hid hcell2
  have HR := hid hr
  clear hp hq hcell hcell2 hr
  by_cases hlen : l.length = m.length
  · have HLEN := hid hlen
    have hle2 : ((l.length : Int) == (m.length : Int)) = true := by simp [hlen]
    have hle3 : ((m.length : Int) == (m.length : Int)) = true := by simp
    generalize hn : l.length = n at hlen hlc hl HLEN hle2
    have HN := hid hn
    clear hn
    subst hlen
    go_enter Try.func15, Try.ntmps15
    go_wp2_with fail
    go_loopw [5] (fun i wr => ∃ k : Nat, k ≤ m.length ∧ i = .int .i64 k ∧ Below W.heap.size W wr ∧ ∀ j (_ : j < k) (h1 : j < l.length) (h2 : j < m.length), l[j] = m[j]) (fun i _ => m.length - (intOf i).toNat)
    case atStart => exact ⟨0, Nat.zero_le _, rfl, Below.refl _ _, fun j hj => absurd hj (Nat.not_lt_zero _)⟩
    case round =>
      obtain ⟨k, hk, rfl, hb, hno⟩ := hrel
      have HB := hid hb
      have HE := hid hno
      clear hb hno
      by_cases hlt : k < m.length
      · have hlt1 : k < l.length := by rw [HN.out]; exact hlt
        obtain ⟨b, off, rfl, hpb, hc⟩ := HC.out.resolve_left (by intro e; rw [e] at hlt1; simp at hlt1)
        obtain ⟨b2, off2, rfl, hpb2, hc2⟩ := HC2.out.resolve_left (by intro e; rw [e] at hlt; simp at hlt)
        have hbl : b < wr.heap.size := Nat.lt_of_lt_of_le (HP.out b hpb) HB.out.size
        have hbl2 : b2 < wr.heap.size := Nat.lt_of_lt_of_le (HQ.out b2 hpb2) HB.out.size
        obtain ⟨c0, c1, c2, c3, c4, c5, c6, c7, c8, c9, c10⟩ := Sp.cells (fun j u hu => (HB.out.cell (p := ⟨b, off + k * 11 + j, none⟩) (HP.out b hpb)).trans (hc k hlt1 j u hu))
        obtain ⟨d0, d1, d2, d3, d4, d5, d6, d7, d8, d9, d10⟩ := Sp.cells (fun j u hu => (HB.out.cell (p := ⟨b2, off2 + k * 11 + j, none⟩) (HQ.out b2 hpb2)).trans (hc2 k hlt j u hu))
        have HNext : Hid (l[k] = m[k] → ∀ j (_ : j < k + 1) (h1 : j < l.length) (h2 : j < m.length), l[j] = m[j]) := by
          intro he j hj h1 h2
          by_cases e : j = k
          · subst e; exact he
          · exact HE.out j (by omega) h1 h2
        have HHit : Hid (l[k] ≠ m[k] → l ≠ m) := fun hh e => hh (by subst e; rfl)
        clear hc hc2
        generalize l[k] = x at c0 c1 c2 c3 c4 c5 c6 c7 c8 c9 c10 HNext HHit
        generalize m[k] = y at d0 d1 d2 d3 d4 d5 d6 d7 d8 d9 d10 HNext HHit
        have hee := eqSp x y
        by_cases hxy : x = y
        · have HX := hid hxy
          rw [decide_eq_true hxy] at hee
          clear hxy
          go_wp2_with fail
          refine wp_region_bw (by kernel_rfl) (by kernel_rfl) ?_
          repeat (go_big_quiet_step (fail))
          refine wpQuiet_nil ?_
          rintro w2 ⟨⟨_, hb2⟩, rfl⟩
          have HB2 : Hid (Below W.heap.size W w2) := HB.out.trans (hb2.mono HB.out.size)
          clear hb2
          go_wp2_with fail
          go_roundw
          case rel => exact ⟨k + 1, by omega, by go_num, HB2.out, HNext.out HX.out⟩
          case measure => simp [intOf]; omega
        · have HX := hid hxy
          rw [decide_eq_false hxy] at hee
          clear hxy
          go_wp2_with fail
          refine wp_region_bw (by kernel_rfl) (by kernel_rfl) ?_
          repeat (go_big_quiet_step (fail))
          refine wpQuiet_nil ?_
          rintro w2 ⟨⟨_, hb2⟩, rfl⟩
          have HB2 : Hid (Below W.heap.size W w2) := HB.out.trans (hb2.mono HB.out.size)
          clear hb2
          go_wp2_with fail
          go_ret
          exact ⟨by rw [← HR.out, decide_eq_false (HHit.out HX.out)]; rfl, HB2.out⟩
      · obtain rfl : k = m.length := by omega
        go_wp2_with fail
        go_ret
        have : l = m := List.ext_getElem HN.out (fun j h1 h2 => HE.out j h2 h1 h2)
        exact ⟨by rw [← HR.out, decide_eq_true this]; rfl, HB.out⟩
  · have HL : Hid (l ≠ m) := fun e => hlen (by rw [e])
    have hle2 : ((l.length : Int) == (m.length : Int)) = false := by rw [beq_eq_false_iff_ne]; omega
    clear hlen
    go_enter Try.func15, Try.ntmps15
    go_wp2_with fail
    go_ret
    exact ⟨by rw [← HR.out, decide_eq_false HL.out]; rfl, Below.refl _ _⟩
set_option maxRecDepth 100000 in
theorem sclone_any {p : Nat → Prop} (v : Value) (l : List Sp) (W : World) (h : RowsOf p Sp.enc 11 W v l) (hp : ∀ b, p b → b < W.heap.size) (hl : l.length ≤ 1000000) :
    Calls Try.prog 39 #[v] W fun e w' => ∃ a cap, e = .returned (.slice a l.length cap) ∧ Below W.heap.size W w' ∧ Hid (w'.ownsRow W.heap.size 37 11 (.slice a l.length cap) l.length (l.flatMap Sp.enc)) := by
  have qnil : ∀ (w : World) (a : Option Addr) (n c : Nat), (binOp .eql 43 (.slice a n c) (.slice none 0 0)).run Try.prog w = .ok (.bool a.isNone) w := fun w a n c => Lib.run_eql_slice_nil w 43 37 a n c 0 0 Try.underlying43
  have HV := hid h
  have HP := hid hp
  obtain ⟨a, cap, rfl, hlc, hcm, hnn, _⟩ := h
  clear hp
  cases a with
  | none =>
    have hc0 := hnn rfl
    subst hc0
    have hl0 : l.length = 0 := by omega
    have hln : l = [] := List.length_eq_zero_iff.1 hl0
    subst hln
    go_enter Try.func39, Try.ntmps39
    go_wp2_with fail
    go_ret
    exact ⟨none, 0, rfl, Below.refl _ _, World.ownsRow_nil _ _ _ _⟩
  | some ad =>
    have HC : Hid (Cellz p 11 (W.alloc (.cells #[] 37)) (.slice (some ad) l.length cap) l.length (l.flatMap Sp.enc)) := (HV.out.below (B := W.heap.size) ((Below.refl _ W).alloc (Nat.le_refl _) _) HP.out).cellz Sp.enc_length
    go_enter Try.func39, Try.ntmps39
    go_wp2_with (at_builtin; refine wpList_pushCells elemS rfl _ _ rfl W.heap.size _ 0 [] rfl (World.ownsRow_made W #[] 0 (Nat.le_refl _) (Nat.zero_le _) (by simp)) rfl HC.out (Sp.one l) ?_ ?_ ?_ ?_)
    · unfold maxLen; omega
    · omega
    · simp
    intro v1 w1 hown hb
    have HB : Hid (Below W.heap.size W w1) := ((Below.refl _ W).alloc (Nat.le_refl _) _).trans hb
    have hown2 : w1.ownsRow W.heap.size 37 11 v1 l.length (l.flatMap Sp.enc) := by simpa using hown
    have hr : RowsOf (fun b => W.heap.size ≤ b ∧ b < w1.heap.size) Sp.enc 11 w1 v1 l := RowsOf.of_owns Sp.enc_length hown2
    have HR := hid hown2
    clear hown2
    obtain ⟨a1, cap1, rfl, _⟩ := hr
    clear hown hb
    go_wp2_with fail
    go_ret
    exact ⟨a1, cap1, rfl, HB.out, HR.out⟩
end C30
end Go.Proofs.Ytcohcanakicmpaa
namespace Go.Proofs.Ytcohcanakicmpaa
open Go.RowKit Go.Peri
namespace C25

set_option maxRecDepth 100000 in
set_option maxRecDepth 100000 in
def roomR (n : Int) : Nat := (max 1 (min n 64)).toNat
/-- A buffer: its room, what waits, how many were lost; what waits lies in memory of its own, in block h. -/
def BufIs (w : World) (g : Nat) (h : Option Nat) (room : Nat) (l : List Sp) (lost : Int) : Prop :=
  ∃ v : Value, v.ownBlock = h ∧ Blk w g #[.int .i64 room, v, .int .i64 lost] 102 ∧ w.ownsRow (g + 1) 37 11 v l.length (l.flatMap Sp.enc) ∧ l.length ≤ room ∧ room ≤ 64 ∧ 0 ≤ lost ∧ lost ≤ 1099511627776

set_option maxRecDepth 100000 in
theorem new_any (n : Int) (w : World) : Calls Try.prog 22 #[.int .i64 n] w fun e w' => e = .returned (.pointer (some ⟨w.heap.size, 0, none⟩)) ∧ Below w.heap.size w w' ∧ w'.heap.size = w.heap.size + 1 ∧ BufIs w' w.heap.size none (roomR n) [] 0 := by
  have fin : ∀ m : Nat, m ≤ 64 → BufIs (w.alloc (.cells #[.int .i64 m, .slice none 0 0, .int .i64 0] 102)) w.heap.size none m [] 0 := fun m hm => ⟨.slice none 0 0, rfl, Blk.new _ _ _, World.ownsRow_nil _ _ _ _, by simp, hm, by omega, by omega⟩
  obtain ⟨k, hk⟩ : ∃ k, roomR n = k := ⟨_, rfl⟩
  have he : max 1 (min n 64) = (k : Int) := by rw [← hk]; unfold roomR; omega
  have hk64 : k ≤ 64 := by rw [← hk]; unfold roomR; omega
  have HF := hid (fin k hk64)
  have HK := hid hk
  clear fin hk
  go_enter Try.func22, Try.ntmps22
  go_wp2_with fail
  go_ret
  exact ⟨rfl, by go_grown, by simp, by rw [HK.out]; exact HF.out⟩
end C25
end Go.Proofs.Ytcohcanakicmpaa
namespace Go.Peri
open Go.RowKit
theorem Only.of_grown {w w' : World} {row : Option Nat} (h : w.grownBy w' row) : Only row.toList w w' :=
  ⟨h.os, h.tape, h.output, h.size, fun k hk hs => h.block k hk (by rintro rfl; simp at hs)⟩
/-- 'append(out, x)' with where the new row lies, inside a region that draws its order. -/
theorem step_push_at {P : Program} {t e : TypeId} {size bytes : Nat} (E : Elem P t e size bytes) {ops : Array Oper} {o : Oper} {a : Act} {Q : Exit → Act → World → Prop} {K : Act → World → Prop} {X : Prop} {w w0 : World} (hgd : o.guard = none) (s x : Operand)
    (ho : o.op = .call { callee := .builtin .append, args := #[s, x], argTypes := #[t, t] }) (base : Nat) (v : Value) (n : Nat) (xs news : List Value) (hs : a.eval s = v) (hown : w0.ownsRow base e size v n xs) {T : TypeId}
    (hw : w = w0.alloc (.cells news.toArray T)) (hx : a.eval x = .slice (some ⟨w0.heap.size, 0, none⟩) 1 1) (hl : news.length = size) (h1 : ∀ u ∈ news, u.oneCell' = true)
    (h63 : n + 1 ≤ maxLen) (hbytes : (n + 1) * bytes ≤ 140737488355328) (hbase : base ≤ w0.heap.size)
    (h : ∀ hb cap w', w'.ownsRow base e size (.slice (some ⟨hb, 0, none⟩) (n + 1) cap) (n + 1) (xs ++ news) → Only v.ownBlock.toList w0 w' → (some hb = v.ownBlock ∨ w0.heap.size ≤ hb) → K (a.put o.dst (.slice (some ⟨hb, 0, none⟩) (n + 1) cap)) w') :
    if Region.wanted o (yielded ops a.tmps) = true then Oper.wp P o a w K Q else X := by
  have hwant : Region.wanted o (yielded ops a.tmps) = true := by simp [Region.wanted, hgd]
  rw [if_pos hwant]
  subst hw
  obtain ⟨i, z, hi, hz, hsz, hby, hzs⟩ := E.info
  obtain ⟨v', w', hr, h2, h3, _, h5⟩ := run_append_own_at (P := P) (w0.alloc (.cells news.toArray T)) base t o.type e i z size bytes E.under hi hz hsz hby hzs E.pos v n xs (hown.alloc _) ⟨w0.heap.size, 0, none⟩ 1 1 news (by omega) (by
    intro j u hj
    have e1 : (⟨w0.heap.size, 0, none⟩ : Addr).add j = ⟨w0.heap.size, j, none⟩ := by
      unfold Addr.add; split
      · rename_i hz; rw [hz]
      · simp
    rw [e1, World.cell?_alloc_new]
    simpa using hj) h1 h63 hbytes (by simp; omega)
  have hform : ∃ hb cap, v' = .slice (some ⟨hb, 0, none⟩) (n + 1) cap := by
    rcases h2.2 with ⟨_, h0⟩ | ⟨g, cap, cur, rfl, _⟩
    · omega
    · exact ⟨g, cap, rfl⟩
  obtain ⟨hb, cap, rfl⟩ := hform
  have hK := h hb cap w' h2 ((Only.refl _ w0).alloc _ |>.trans (Only.of_grown h3)) (by
    rcases h5 with h5 | h5
    · exact .inl h5
    · simp [Value.ownBlock] at h5; exact .inr (by omega))
  unfold Oper.wp execOp
  simp only [ho, resolve, invoke, builtin, Sem.run_bind, Sem.run_pure, Result.andThen_ok, List.map_toArray, List.map_cons, List.map_nil, hs, hx, hr]
  exact hK
end Go.Peri
namespace Go.Proofs.Ytcohcanakicmpaa
open Go.RowKit Go.Peri
namespace C25

theorem load_any (g k : Nat) (x : Int) (w : World) (hc : w.cell? ⟨g, k, none⟩ = some (.int .i64 x)) :
    Calls Try.prog 36 #[.pointer (some ⟨g, k, none⟩)] w fun e w' => e = .returned (.int .i64 x) ∧ w = w' := by
  have hl := run_call_load (P := Try.prog) Try.func65 (by kernel_rfl) (by kernel_rfl) (by kernel_rfl) .i64 (by kernel_rfl) hc
  go_enter Try.func36, Try.ntmps36
  go_wp2
  go_ret
  exact ⟨rfl, rfl⟩
theorem store_any (g k : Nat) (x : Int) (u : Value) (w : World) (hc : w.cell? ⟨g, k, none⟩ = some u) (hz : w.frozen? ⟨g, k, none⟩ = false) :
    Calls Try.prog 47 #[.pointer (some ⟨g, k, none⟩), .int .i64 x] w fun e w' => e = .returned (.tuple #[]) ∧ w.setCell ⟨g, k, none⟩ (.int .i64 x) = w' := by
  have hl := run_call_store (P := Try.prog) Try.func74 (by kernel_rfl) (by kernel_rfl) (by kernel_rfl) (by kernel_rfl) (k := .i64) (y := x) hc hz
  go_enter Try.func47, Try.ntmps47
  go_wp2
  go_end0
  exact ⟨rfl, rfl⟩

theorem BufIs.drew {w : World} {g : Nat} {h : Option Nat} {room : Nat} {l : List Sp} {lost : Int} (hb : BufIs w g h room l lost) : BufIs w.drew g h room l lost := hb
theorem BufIs.form {w : World} {g : Nat} {h : Option Nat} {room : Nat} {l : List Sp} {lost : Int} (hb : BufIs w g h room l lost) : ∃ a cap, (Value.slice a l.length cap).ownBlock = h ∧ Blk w g #[.int .i64 room, .slice a l.length cap, .int .i64 lost] 102 ∧ w.ownsRow (g + 1) 37 11 (.slice a l.length cap) l.length (l.flatMap Sp.enc) ∧ l.length ≤ room ∧ room ≤ 64 ∧ 0 ≤ lost ∧ lost ≤ 1099511627776 := by
  obtain ⟨v, h1, h2, h3, h4⟩ := hb
  have hf : ∃ a cap, v = .slice a l.length cap := by
    rcases h3.2 with ⟨h5, h0⟩ | ⟨gg, cap, cur, rfl, _⟩
    · rw [h5, h0]; exact ⟨none, 0, rfl⟩
    · exact ⟨_, cap, rfl⟩
  obtain ⟨a, cap, rfl⟩ := hf
  exact ⟨a, cap, h1, h2, h3, h4⟩

set_option maxRecDepth 100000 in
theorem len_any (g : Nat) (h : Option Nat) (room : Nat) (l : List Sp) (lost : Int) (w : World) (hb : BufIs w g h room l lost) :
    Calls Try.prog 34 #[.pointer (some ⟨g, 0, none⟩)] w fun e w' => e = .returned (.int .i64 l.length) ∧ w = w' := by
  obtain ⟨a, cap, _, h2, _⟩ := hb.form
  have c1 : w.cell? ⟨g, 1, none⟩ = some (.slice a l.length cap) := h2.cell 1
  clear h2 hb
  go_enter Try.func34, Try.ntmps34
  go_wp2
  go_ret
  exact ⟨rfl, rfl⟩
set_option maxRecDepth 100000 in
theorem lost_any (g : Nat) (h : Option Nat) (room : Nat) (l : List Sp) (lost : Int) (w : World) (hb : BufIs w g h room l lost) :
    Calls Try.prog 37 #[.pointer (some ⟨g, 0, none⟩)] w fun e w' => e = .returned (.int .i64 lost) ∧ w = w' := by
  obtain ⟨a, cap, _, h2, _⟩ := hb.form
  have c2 : w.cell? ⟨g, 2, none⟩ = some (.int .i64 lost) := h2.cell 2
  clear h2 hb
  go_enter Try.func37, Try.ntmps37
  go_wp2_with (go_at_call 36; refine (load_any _ _ _ _ c2).mono ?_; rintro e w' ⟨rfl, rfl⟩)
  go_ret
  exact ⟨rfl, rfl⟩
set_option maxRecDepth 100000 in
/-- The blocks of a buffer. -/
def own (g : Nat) (h : Option Nat) : List Nat := g :: h.toList
/-- The row is where it was, or new. -/
def Moved (w : World) (h h' : Option Nat) : Prop := h' = h ∨ ∃ b, h' = some b ∧ w.heap.size ≤ b

set_option maxRecDepth 100000 in
set_option maxHeartbeats 4000000 in
theorem put_full (g : Nat) (h : Option Nat) (room : Nat) (l : List Sp) (lost : Int) (s : Sp) (w : World) (hb : BufIs w g h room l lost) (hf : l.length = room) :
    Calls Try.prog 24 #[.pointer (some ⟨g, 0, none⟩), .agg #[.int .u64 s.hi, .int .u64 s.lo, .int .u64 s.id, .int .u64 s.up, .string s.name, .int .i64 s.status, .int .i64 s.seq, .int .i64 s.kids, .bool s.shadow, .int .i64 s.start, .int .i64 s.stop]] w fun e w' =>
      e = .returned (.bool false) ∧ Only (own g h) w w' ∧ BufIs w' g h room l (min (lost + 1) 1099511627776) := by
  obtain ⟨a, cap, e1, h2, h3, h4, h5, h6, h7⟩ := hb.form
  have hgl := h2.lt
  have hr1 : (room : Int) ≤ (l.length : Int) := by omega
  have c0 : w.cell? ⟨g, 0, none⟩ = some (.int .i64 room) := h2.cell 0
  have c1 : w.cell? ⟨g, 1, none⟩ = some (.slice a l.length cap) := h2.cell 1
  have hne : ¬ g = w.heap.size := by omega
  have hwr : IntKind.i64.wrap (lost + 1) = lost + 1 := IntWalk.i64_in _ (by omega)
  have hB : Blk ((w.alloc (.cells #[.int .u64 s.hi, .int .u64 s.lo, .int .u64 s.id, .int .u64 s.up, .string s.name, .int .i64 s.status, .int .i64 s.seq, .int .i64 s.kids, .bool s.shadow, .int .i64 s.start, .int .i64 s.stop] 37)).drew.drew) g #[.int .i64 room, .slice a l.length cap, .int .i64 lost] 102 := h2.alloc _
  have c2 : ((w.alloc (.cells #[.int .u64 s.hi, .int .u64 s.lo, .int .u64 s.id, .int .u64 s.up, .string s.name, .int .i64 s.status, .int .i64 s.seq, .int .i64 s.kids, .bool s.shadow, .int .i64 s.start, .int .i64 s.stop] 37)).drew.drew).cell? ⟨g, 2, none⟩ = some (.int .i64 lost) := hB.cell 2
  have f2 := hB.free 2
  have fin : ∀ m : Int, m = min (lost + 1) 1099511627776 → Only (own g h) w ((w.setCell ⟨g, 2, none⟩ (.int .i64 m)).alloc (.cells #[.int .u64 s.hi, .int .u64 s.lo, .int .u64 s.id, .int .u64 s.up, .string s.name, .int .i64 s.status, .int .i64 s.seq, .int .i64 s.kids, .bool s.shadow, .int .i64 s.start, .int .i64 s.stop] 37)) ∧ BufIs ((w.setCell ⟨g, 2, none⟩ (.int .i64 m)).alloc (.cells #[.int .u64 s.hi, .int .u64 s.lo, .int .u64 s.id, .int .u64 s.up, .string s.name, .int .i64 s.status, .int .i64 s.seq, .int .i64 s.kids, .bool s.shadow, .int .i64 s.start, .int .i64 s.stop] 37)) g h room l (min (lost + 1) 1099511627776) := by
    rintro m rfl
    refine ⟨((Only.refl _ _).setCell (by simp [own]) _).alloc _, .slice a l.length cap, e1, (h2.set 2 _).alloc _, World.ownsRow.alloc ?_ _, h4, h5, by omega, by omega⟩
    obtain ⟨g1, g2⟩ := h3
    refine ⟨g1, g2.imp id ?_⟩
    rintro ⟨k, cp, cur, q1, q2, q3, q4⟩
    exact ⟨k, cp, cur, q1, q2, (Below.heap_setCell _ _ _ _ (by show k ≠ g; omega)).trans q3, q4⟩
  obtain ⟨m, hm⟩ : ∃ m, min (lost + 1) 1099511627776 = m := ⟨_, rfl⟩
  have HM := hid (fin m hm.symm)
  have HC2 := hid c2
  have HF2 := hid f2
  clear fin hB h2 h3 hb c2 f2
  go_enter Try.func24, Try.ntmps24
  go_wp2_with fail
  go_region_held3 (fun w' => w'.cell? ⟨g, 0, none⟩ = some (.int .i64 room) ∧ w'.cell? ⟨g, 1, none⟩ = some (.slice a l.length cap)) (go_keep) (fail)
  go_wp2_with fail
  refine wp_region_still_tail 9 (by kernel_rfl) (by kernel_rfl) ?_
  simp only [List.take_succ_cons, List.take_zero, List.drop_succ_cons, List.drop_zero]
  repeat still_step
  still_call ((load_any g 2 lost _ HC2.out).mono fun _ _ hh => ⟨hh.1, hh.2.symm⟩)
  repeat still_step
  refine wpStill_nil ?_
  change wpList _ _ _ _ _ ((w.alloc (.cells #[.int .u64 s.hi, .int .u64 s.lo, .int .u64 s.id, .int .u64 s.up, .string s.name, .int .i64 s.status, .int .i64 s.seq, .int .i64 s.kids, .bool s.shadow, .int .i64 s.start, .int .i64 s.stop] 37)).drew.drew)
  go_wp2_with fail
  refine (store_any g 2 _ _ ((w.alloc (.cells #[.int .u64 s.hi, .int .u64 s.lo, .int .u64 s.id, .int .u64 s.up, .string s.name, .int .i64 s.status, .int .i64 s.seq, .int .i64 s.kids, .bool s.shadow, .int .i64 s.start, .int .i64 s.stop] 37)).drew.drew) HC2.out HF2.out).mono ?_
  rintro e w' ⟨rfl, rfl⟩
  go_wp2_with fail
  go_ret
  exact ⟨rfl, HM.out.1.drew.drew, HM.out.2.drew.drew⟩
end C25
end Go.Proofs.Ytcohcanakicmpaa
namespace Go.Proofs.Ytcohcanakicmpaa
open Go.RowKit Go.Peri
namespace C25
theorem blk11 {w : World} {g t : Nat} {a0 a1 a2 a3 a4 a5 a6 a7 a8 a9 a10 : Value} (h : Blk w g #[a0, a1, a2, a3, a4, a5, a6, a7, a8, a9, a10] t) :
    w.cell? ⟨g, 0, none⟩ = some a0 ∧ w.cell? ⟨g, 1, none⟩ = some a1 ∧ w.cell? ⟨g, 2, none⟩ = some a2 ∧ w.cell? ⟨g, 3, none⟩ = some a3 ∧ w.cell? ⟨g, 4, none⟩ = some a4 ∧ w.cell? ⟨g, 5, none⟩ = some a5 ∧ w.cell? ⟨g, 6, none⟩ = some a6 ∧ w.cell? ⟨g, 7, none⟩ = some a7 ∧ w.cell? ⟨g, 8, none⟩ = some a8 ∧ w.cell? ⟨g, 9, none⟩ = some a9 ∧ w.cell? ⟨g, 10, none⟩ = some a10 ∧ ∀ i, w.frozen? ⟨g, i, none⟩ = false :=
  ⟨h.cell 0, h.cell 1, h.cell 2, h.cell 3, h.cell 4, h.cell 5, h.cell 6, h.cell 7, h.cell 8, h.cell 9, h.cell 10, h.free⟩

set_option maxRecDepth 100000 in
set_option maxHeartbeats 4000000 in
theorem put_more (g : Nat) (h : Option Nat) (room : Nat) (l : List Sp) (lost : Int) (s : Sp) (w : World) (hb : BufIs w g h room l lost) (hf : l.length < room) :
    Calls Try.prog 24 #[.pointer (some ⟨g, 0, none⟩), .agg #[.int .u64 s.hi, .int .u64 s.lo, .int .u64 s.id, .int .u64 s.up, .string s.name, .int .i64 s.status, .int .i64 s.seq, .int .i64 s.kids, .bool s.shadow, .int .i64 s.start, .int .i64 s.stop]] w fun e w' =>
      e = .returned (.bool true) ∧ Only (own g h) w w' ∧ ∃ h', Moved w h h' ∧ BufIs w' g h' room (l ++ [s]) lost := by
  obtain ⟨a, cap, e1, h2, h3, h4, h5, h6, h7⟩ := hb.form
  have hgl := h2.lt
  have hr1 : ¬ (room : Int) ≤ (l.length : Int) := by omega
  have c0 : w.cell? ⟨g, 0, none⟩ = some (.int .i64 room) := h2.cell 0
  have c1 : w.cell? ⟨g, 1, none⟩ = some (.slice a l.length cap) := h2.cell 1
  have f1 := h2.free 1
  have hne : ¬ g = w.heap.size := by omega
  have hne2 : ¬ w.heap.size = g := by omega
  have HG := hid h2
  have HE := hid e1
  have HO : Hid (((w.alloc (.cells #[.int .u64 s.hi, .int .u64 s.lo, .int .u64 s.id, .int .u64 s.up, .string s.name, .int .i64 s.status, .int .i64 s.seq, .int .i64 s.kids, .bool s.shadow, .int .i64 s.start, .int .i64 s.stop] 37)).drew.drew).ownsRow (g + 1) 37 11 (.slice a l.length cap) l.length (l.flatMap Sp.enc)) := h3.alloc _
  have HK : Hid (Blk ((w.alloc (.cells #[.int .u64 s.hi, .int .u64 s.lo, .int .u64 s.id, .int .u64 s.up, .string s.name, .int .i64 s.status, .int .i64 s.seq, .int .i64 s.kids, .bool s.shadow, .int .i64 s.start, .int .i64 s.stop] 37)).drew.drew) w.heap.size #[.int .u64 s.hi, .int .u64 s.lo, .int .u64 s.id, .int .u64 s.up, .string s.name, .int .i64 s.status, .int .i64 s.seq, .int .i64 s.kids, .bool s.shadow, .int .i64 s.start, .int .i64 s.stop] 37) := Blk.new w _ _
  have HGG : Hid (Blk ((w.alloc (.cells #[.int .u64 s.hi, .int .u64 s.lo, .int .u64 s.id, .int .u64 s.up, .string s.name, .int .i64 s.status, .int .i64 s.seq, .int .i64 s.kids, .bool s.shadow, .int .i64 s.start, .int .i64 s.stop] 37)).drew.drew) g #[.int .i64 room, .slice a l.length cap, .int .i64 lost] 102) := h2.alloc _
  have HLT : Hid (∀ k, h = some k → g + 1 ≤ k ∧ k < w.heap.size) := fun k hk => h3.lt k (by rw [e1]; exact hk)
  have l63 : l.length + 1 ≤ 9223372036854775807 := by omega
  have lby : (l.length + 1) * 96 ≤ 140737488355328 := by omega
  have lbase : g + 1 ≤ ((w.alloc (.cells #[.int .u64 s.hi, .int .u64 s.lo, .int .u64 s.id, .int .u64 s.up, .string s.name, .int .i64 s.status, .int .i64 s.seq, .int .i64 s.kids, .bool s.shadow, .int .i64 s.start, .int .i64 s.stop] 37)).drew.drew).heap.size := by simp; omega
  have HN1 : Hid (g ∉ (Value.slice a l.length cap).ownBlock.toList) := by
    intro hm
    rw [HE.out] at hm
    have := HLT.out g (by simpa using hm)
    omega
  have HN2 : Hid (w.heap.size ∉ (Value.slice a l.length cap).ownBlock.toList) := by
    intro hm
    rw [HE.out] at hm
    have := HLT.out w.heap.size (by simpa using hm)
    omega
  clear h2 h3 hb e1
  go_enter Try.func24, Try.ntmps24
  go_wp2_with fail
  go_region_held3 (fun w' => w'.cell? ⟨g, 0, none⟩ = some (.int .i64 room) ∧ w'.cell? ⟨g, 1, none⟩ = some (.slice a l.length cap)) (go_keep) (fail)
  go_wp2_with fail
  obtain ⟨z0, z1, z2, z3, z4, z5, z6, z7, z8, z9, z10, zf⟩ := blk11 HK.out
  go_region_law (refine step_push_at C30.elemS rfl (.tmp 31) (.tmp 33) rfl (g + 1) (.slice a l.length cap) l.length (l.flatMap Sp.enc) (Sp.enc s) (by simp [Act.eval]) HO.out rfl (by simp [Act.eval]) rfl (by simp [Sp.enc, Value.oneCell']) l63 lby lbase ?_; intro hb1 cap1 w1 hown1 honly1 hat1; have k1 := (HGG.out.only honly1 HN1.out).cell 1; have kf := (HGG.out.only honly1 HN1.out).free 1; simp only [List.getElem?_toArray, List.getElem?_cons_zero, List.getElem?_cons_succ] at k1)
  all_goals
    have HF1 := hid hown1
    have HF2 := hid honly1
    have HF3 := hid hat1
    clear hown1 honly1 hat1
    go_wp2_with fail
    go_ret
    have ho : Only (own g h) w w1 := by
      have h1 : Only (own g h) w ((w.alloc (.cells #[.int .u64 s.hi, .int .u64 s.lo, .int .u64 s.id, .int .u64 s.up, .string s.name, .int .i64 s.status, .int .i64 s.seq, .int .i64 s.kids, .bool s.shadow, .int .i64 s.start, .int .i64 s.stop] 37)).drew.drew) := (((Only.refl _ _).alloc _).drew).drew
      refine h1.trans (HF2.out.mono fun k hk => ?_)
      rw [HE.out] at hk
      simp only [own, List.mem_cons]
      exact .inr hk
    refine ⟨rfl, ho.setCell (by simp [own]) _, some hb1, ?_, .slice (some ⟨hb1, 0, none⟩) (l.length + 1) cap1, rfl, (HGG.out.only HF2.out HN1.out).set 1 _, ?_, by simp; omega, h5, h6, h7⟩
    · rcases HF3.out with h9 | h9
      · exact .inl (h9.trans HE.out)
      · refine .inr ⟨hb1, rfl, ?_⟩
        simp at h9
        omega
    · have e2 : l.flatMap Sp.enc ++ Sp.enc s = (l ++ [s]).flatMap Sp.enc := by simp
      have e3 : (l ++ [s]).length = l.length + 1 := by simp
      rw [← e2, e3]
      obtain ⟨g1, g2⟩ := HF1.out
      refine ⟨g1, g2.imp id ?_⟩
      rintro ⟨k, cp, cur, q1, q2, q3, q4⟩
      exact ⟨k, cp, cur, q1, q2, (Below.heap_setCell _ _ _ _ (by show k ≠ g; omega)).trans q3, q4⟩
end C25
end Go.Proofs.Ytcohcanakicmpaa
namespace Go.Peri
theorem wp_genS {P : Program} {c : Code} {Q : Exit → Act → World → Prop} {a : Act} {w : World} (h : ∀ w2, w2 = w → c.wp P Q a w2) : c.wp P Q a w := h w rfl
end Go.Peri
namespace Go.Proofs.Ytcohcanakicmpaa
open Go.RowKit Go.Peri
namespace C09
open C25 (blk11)
/-- A number that may not be. -/
def badN (x : Sp) : Bool := decide (x.status < 0 ∨ 599 < x.status ∨ x.seq < 0 ∨ 63 < x.seq ∨ x.kids < 0 ∨ 64 < x.kids ∨ x.start < 0 ∨ 1099511627776 < x.start ∨ x.stop < x.start ∨ 1099511627776 < x.stop)
def chS (x : Sp) : Int := if (C06.zeroR x.hi x.lo || decide (x.id = 0)) = true then 11 else if Hd.nameOk x.name = false then 7 else if badN x = true then 12 else 0
set_option maxRecDepth 100000 in
theorem within_any (n lo hi : Int) (b : Bool) (W : World) (hb : decide (lo ≤ n ∧ n ≤ hi) = b) : Calls Try.prog 46 #[.int .i64 n, .int .i64 lo, .int .i64 hi] W fun e w' => e = .returned (.bool b) ∧ W = w' := by
  have HB := hid hb
  clear hb
  by_cases h1 : lo ≤ n
  · by_cases h2 : n ≤ hi
    · have hz : Hid (b = true) := hid (by rw [← HB.out]; exact decide_eq_true ⟨h1, h2⟩)
      clear HB
      go_enter Try.func46, Try.ntmps46
      go_wp2_with fail
      go_ret
      exact ⟨by rw [hz.out]; rfl, rfl⟩
    · have hz : Hid (b = false) := hid (by rw [← HB.out]; exact decide_eq_false (by omega))
      clear HB
      go_enter Try.func46, Try.ntmps46
      go_wp2_with fail
      go_ret
      exact ⟨by rw [hz.out]; rfl, rfl⟩
  · have hz : Hid (b = false) := hid (by rw [← HB.out]; exact decide_eq_false (by omega))
    clear HB
    go_enter Try.func46, Try.ntmps46
    go_wp2_with fail
    go_ret
    exact ⟨by rw [hz.out]; rfl, rfl⟩
set_option maxRecDepth 100000 in
set_option maxHeartbeats 4000000 in
theorem scheck_any (x : Sp) (r : Int) (W : World) (hx : x.Wf) (hr : chS x = r) :
    Calls Try.prog 23 #[.agg #[.int .u64 x.hi, .int .u64 x.lo, .int .u64 x.id, .int .u64 x.up, .string x.name, .int .i64 x.status, .int .i64 x.seq, .int .i64 x.kids, .bool x.shadow, .int .i64 x.start, .int .i64 x.stop]] W fun e w' => e = .returned (.int .i64 r) ∧ Below W.heap.size W w' := by
  have XZ := hid (fun w => C06.zero_any x.hi x.lo w hx.hi hx.lo)
  have XN := hid (fun w => C04.name_any x.name w (by have := hx.name; omega))
  have HR := hid hr
  unfold chS at HR
  obtain ⟨zb, hzb⟩ : ∃ q, C06.zeroR x.hi x.lo = q := ⟨_, rfl⟩
  obtain ⟨nm, hnm⟩ : ∃ q, Hd.nameOk x.name = q := ⟨_, rfl⟩
  rw [hzb] at XZ HR
  rw [hnm] at XN HR
  have XW := hid (fun n lo hi b w hb => within_any n lo hi b w hb)
  obtain ⟨v0, hv0⟩ : ∃ q, decide (0 ≤ x.status ∧ x.status ≤ 599) = q := ⟨_, rfl⟩
  have XW0 := hid (fun w => within_any x.status (0) (599) v0 w hv0)
  obtain ⟨v1, hv1⟩ : ∃ q, decide (0 ≤ x.seq ∧ x.seq ≤ 63) = q := ⟨_, rfl⟩
  have XW1 := hid (fun w => within_any x.seq (0) (63) v1 w hv1)
  obtain ⟨v2, hv2⟩ : ∃ q, decide (0 ≤ x.kids ∧ x.kids ≤ 64) = q := ⟨_, rfl⟩
  have XW2 := hid (fun w => within_any x.kids (0) (64) v2 w hv2)
  obtain ⟨v3, hv3⟩ : ∃ q, decide (0 ≤ x.start ∧ x.start ≤ 1099511627776) = q := ⟨_, rfl⟩
  have XW3 := hid (fun w => within_any x.start (0) (1099511627776) v3 w hv3)
  obtain ⟨v4, hv4⟩ : ∃ q, decide (x.start ≤ x.stop ∧ x.stop ≤ 1099511627776) = q := ⟨_, rfl⟩
  have XW4 := hid (fun w => within_any x.stop (x.start) (1099511627776) v4 w hv4)
  have HBN : Hid (badN x = !(v0 && (v1 && (v2 && (v3 && (v4)))))) := hid (by
    rw [← hv0, ← hv1, ← hv2, ← hv3, ← hv4]
    unfold badN
    rw [Bool.eq_iff_iff]
    simp only [decide_eq_true_eq, Bool.not_eq_true', Bool.and_eq_false_iff, decide_eq_false_iff_not]
    omega)
  rw [HBN.out] at HR
  clear HBN XW hv0 hv1 hv2 hv3 hv4
  clear hzb hnm hr hx
  go_enter Try.func23, Try.ntmps23
  go_upto_region 1 with fail
  refine wp_genS ?_
  intro w1 hw1
  have hb1 : Below W.heap.size W w1 := by rw [hw1]; go_grown
  have hk1 : Blk w1 W.heap.size #[.int .u64 x.hi, .int .u64 x.lo, .int .u64 x.id, .int .u64 x.up, .string x.name, .int .i64 x.status, .int .i64 x.seq, .int .i64 x.kids, .bool x.shadow, .int .i64 x.start, .int .i64 x.stop] 37 := by rw [hw1]; exact Blk.new _ _ _
  clear hw1
  have HB1 := hid hb1
  have HK1 := hid hk1
  obtain ⟨x0, x1, x2, x3, x4, x5, x6, x7, x8, x9, x10, -⟩ := blk11 hk1
  clear hb1 hk1
  go_wp2_with fail
  refine (XZ.out _).mono ?_
  rintro e w2 ⟨rfl, hb2⟩
  have HB2 := hid (HB1.out.trans (hb2.mono HB1.out.size))
  have HK2 := hid (HK1.out.later hb2)
  clear hb2 x0 x1 x2 x3 x4 x5 x6 x7 x8 x9 x10
  obtain ⟨x0, x1, x2, x3, x4, x5, x6, x7, x8, x9, x10, -⟩ := blk11 HK2.out
  cases zb
  · skip
    by_cases hid0 : x.id = 0
    · have h0 : ((x.id : Int) == 0) = true := by rw [hid0]; rfl
      rw [decide_eq_true hid0] at HR
      clear hid0
      have HZ : Hid (r = 11) := hid (by have := HR.out; simpa using this.symm)
      go_wp2_with fail
      go_ret
      exact ⟨by rw [HZ.out]; rfl, HB2.out⟩
    · have h0 : ((x.id : Int) == 0) = false := by rw [beq_eq_false_iff_ne]; omega
      rw [decide_eq_false hid0] at HR
      clear hid0
      go_wp2_with fail
      refine (XN.out _).mono ?_
      rintro e w3 ⟨rfl, rfl⟩
      cases nm
      · have HZ : Hid (r = 7) := hid (by have := HR.out; simpa using this.symm)
        go_wp2_with fail
        go_ret
        exact ⟨by rw [HZ.out]; rfl, HB2.out⟩
      · skip
        go_wp2_with fail
        refine (XW0.out _).mono ?_
        rintro e w5 ⟨rfl, rfl⟩
        cases v0
        · have HZ : Hid (r = 12) := hid (by have := HR.out; simpa using this.symm)
          go_wp2_with fail
          go_ret
          exact ⟨by rw [HZ.out]; rfl, HB2.out⟩
        · skip
          go_wp2_with fail
          refine (XW1.out _).mono ?_
          rintro e w6 ⟨rfl, rfl⟩
          cases v1
          · have HZ : Hid (r = 12) := hid (by have := HR.out; simpa using this.symm)
            go_wp2_with fail
            go_ret
            exact ⟨by rw [HZ.out]; rfl, HB2.out⟩
          · skip
            go_wp2_with fail
            refine (XW2.out _).mono ?_
            rintro e w7 ⟨rfl, rfl⟩
            cases v2
            · have HZ : Hid (r = 12) := hid (by have := HR.out; simpa using this.symm)
              go_wp2_with fail
              go_ret
              exact ⟨by rw [HZ.out]; rfl, HB2.out⟩
            · skip
              go_wp2_with fail
              refine (XW3.out _).mono ?_
              rintro e w8 ⟨rfl, rfl⟩
              cases v3
              · have HZ : Hid (r = 12) := hid (by have := HR.out; simpa using this.symm)
                go_wp2_with fail
                go_ret
                exact ⟨by rw [HZ.out]; rfl, HB2.out⟩
              · skip
                go_wp2_with fail
                refine (XW4.out _).mono ?_
                rintro e w9 ⟨rfl, rfl⟩
                cases v4
                · have HZ : Hid (r = 12) := hid (by have := HR.out; simpa using this.symm)
                  go_wp2_with fail
                  go_ret
                  exact ⟨by rw [HZ.out]; rfl, HB2.out⟩
                · skip
                  have HZ : Hid (r = 0) := hid (by have := HR.out; simpa using this.symm)
                  go_wp2_with fail
                  go_ret
                  exact ⟨by rw [HZ.out]; rfl, HB2.out⟩
  · have HZ : Hid (r = 11) := hid (by have := HR.out; simpa using this.symm)
    go_wp2_with fail
    go_ret
    exact ⟨by rw [HZ.out]; rfl, HB2.out⟩
set_option maxRecDepth 100000 in
set_option maxHeartbeats 8000000 in
theorem rscheck_any (x : Sp) (r : Int) (W : World) (hx : x.Wf) (hr : chS x = r) :
    Calls Try.prog 9 #[.agg #[.int .u64 x.hi, .int .u64 x.lo, .int .u64 x.id, .int .u64 x.up, .string x.name, .int .i64 x.status, .int .i64 x.seq, .int .i64 x.kids, .bool x.shadow, .int .i64 x.start, .int .i64 x.stop]] W fun e w' => e = .returned (.int .i64 r) ∧ Below W.heap.size W w' := by
  have XZ := hid (fun w => C06.rzero_any x.hi x.lo w )
  have XN := hid (fun w => C04.rname_any x.name w (by have := hx.name; omega))
  have HR := hid hr
  unfold chS at HR
  obtain ⟨zb, hzb⟩ : ∃ q, C06.zeroR x.hi x.lo = q := ⟨_, rfl⟩
  obtain ⟨nm, hnm⟩ : ∃ q, Hd.nameOk x.name = q := ⟨_, rfl⟩
  rw [hzb] at XZ HR
  rw [hnm] at XN HR
  obtain ⟨bn, hbn⟩ : ∃ q, badN x = q := ⟨_, rfl⟩
  rw [hbn] at HR
  have HBN := hid hbn
  unfold badN at HBN
  clear hbn
  clear hzb hnm hr hx
  go_enter Try.func9, Try.ntmps9
  go_upto_region 1 with fail
  refine wp_genS ?_
  intro w1 hw1
  have hb1 : Below W.heap.size W w1 := by rw [hw1]; go_grown
  have hk1 : Blk w1 W.heap.size #[.int .u64 x.hi, .int .u64 x.lo, .int .u64 x.id, .int .u64 x.up, .string x.name, .int .i64 x.status, .int .i64 x.seq, .int .i64 x.kids, .bool x.shadow, .int .i64 x.start, .int .i64 x.stop] 37 := by rw [hw1]; exact Blk.new _ _ _
  clear hw1
  have HB1 := hid hb1
  have HK1 := hid hk1
  obtain ⟨x0, x1, x2, x3, x4, x5, x6, x7, x8, x9, x10, -⟩ := blk11 hk1
  clear hb1 hk1
  cases zb
  · skip
    by_cases hid0 : x.id = 0
    · have h0 : ((x.id : Int) == 0) = true := by rw [hid0]; rfl
      rw [decide_eq_true hid0] at HR
      clear hid0
      go_wp2_with fail
      refine (XZ.out _).mono ?_
      rintro e w2 ⟨rfl, hb2⟩
      have HB2 := hid (HB1.out.trans (hb2.mono HB1.out.size))
      have HK2 := hid (HK1.out.later hb2)
      clear hb2 x0 x1 x2 x3 x4 x5 x6 x7 x8 x9 x10
      obtain ⟨x0, x1, x2, x3, x4, x5, x6, x7, x8, x9, x10, -⟩ := blk11 HK2.out
      have HZ : Hid (r = 11) := hid (by have := HR.out; simpa using this.symm)
      go_wp2_with fail
      go_ret
      exact ⟨by rw [HZ.out]; rfl, HB2.out⟩
    · have h0 : ((x.id : Int) == 0) = false := by rw [beq_eq_false_iff_ne]; omega
      rw [decide_eq_false hid0] at HR
      clear hid0
      go_wp2_with fail
      refine (XZ.out _).mono ?_
      rintro e w2 ⟨rfl, hb2⟩
      have HB2 := hid (HB1.out.trans (hb2.mono HB1.out.size))
      have HK2 := hid (HK1.out.later hb2)
      clear hb2 x0 x1 x2 x3 x4 x5 x6 x7 x8 x9 x10
      obtain ⟨x0, x1, x2, x3, x4, x5, x6, x7, x8, x9, x10, -⟩ := blk11 HK2.out
      go_wp2_with fail
      refine (XN.out _).mono ?_
      rintro e w3 ⟨rfl, rfl⟩
      cases nm
      · have HZ : Hid (r = 7) := hid (by have := HR.out; simpa using this.symm)
        go_wp2_with fail
        go_ret
        exact ⟨by rw [HZ.out]; rfl, HB2.out⟩
      · skip
        by_cases c0 : x.status < 0
        · have hf : bn = true := by rw [← HBN.out]; exact decide_eq_true (by omega)
          subst hf
          clear HBN
          have HZ : Hid (r = 12) := hid (by have := HR.out; simpa using this.symm)
          go_wp2_with fail
          go_ret
          exact ⟨by rw [HZ.out]; rfl, HB2.out⟩
        · skip
          by_cases c1 : 599 < x.status
          · have hf : bn = true := by rw [← HBN.out]; exact decide_eq_true (by omega)
            subst hf
            clear HBN
            have HZ : Hid (r = 12) := hid (by have := HR.out; simpa using this.symm)
            go_wp2_with fail
            go_ret
            exact ⟨by rw [HZ.out]; rfl, HB2.out⟩
          · skip
            by_cases c2 : x.seq < 0
            · have hf : bn = true := by rw [← HBN.out]; exact decide_eq_true (by omega)
              subst hf
              clear HBN
              have HZ : Hid (r = 12) := hid (by have := HR.out; simpa using this.symm)
              go_wp2_with fail
              go_ret
              exact ⟨by rw [HZ.out]; rfl, HB2.out⟩
            · skip
              by_cases c3 : 64 ≤ x.seq
              · have hf : bn = true := by rw [← HBN.out]; exact decide_eq_true (by omega)
                subst hf
                clear HBN
                have HZ : Hid (r = 12) := hid (by have := HR.out; simpa using this.symm)
                go_wp2_with fail
                go_ret
                exact ⟨by rw [HZ.out]; rfl, HB2.out⟩
              · skip
                by_cases c4 : x.kids < 0
                · have hf : bn = true := by rw [← HBN.out]; exact decide_eq_true (by omega)
                  subst hf
                  clear HBN
                  have HZ : Hid (r = 12) := hid (by have := HR.out; simpa using this.symm)
                  go_wp2_with fail
                  go_ret
                  exact ⟨by rw [HZ.out]; rfl, HB2.out⟩
                · skip
                  by_cases c5 : 64 < x.kids
                  · have hf : bn = true := by rw [← HBN.out]; exact decide_eq_true (by omega)
                    subst hf
                    clear HBN
                    have HZ : Hid (r = 12) := hid (by have := HR.out; simpa using this.symm)
                    go_wp2_with fail
                    go_ret
                    exact ⟨by rw [HZ.out]; rfl, HB2.out⟩
                  · skip
                    by_cases c6 : x.start < 0
                    · have hf : bn = true := by rw [← HBN.out]; exact decide_eq_true (by omega)
                      subst hf
                      clear HBN
                      have HZ : Hid (r = 12) := hid (by have := HR.out; simpa using this.symm)
                      go_wp2_with fail
                      go_ret
                      exact ⟨by rw [HZ.out]; rfl, HB2.out⟩
                    · skip
                      by_cases c7 : 1099511627776 < x.start
                      · have hf : bn = true := by rw [← HBN.out]; exact decide_eq_true (by omega)
                        subst hf
                        clear HBN
                        have HZ : Hid (r = 12) := hid (by have := HR.out; simpa using this.symm)
                        go_wp2_with fail
                        go_ret
                        exact ⟨by rw [HZ.out]; rfl, HB2.out⟩
                      · skip
                        by_cases c8 : x.stop < x.start
                        · have hf : bn = true := by rw [← HBN.out]; exact decide_eq_true (by omega)
                          subst hf
                          clear HBN
                          have HZ : Hid (r = 12) := hid (by have := HR.out; simpa using this.symm)
                          go_wp2_with fail
                          go_ret
                          exact ⟨by rw [HZ.out]; rfl, HB2.out⟩
                        · skip
                          by_cases c9 : 1099511627776 < x.stop
                          · have hf : bn = true := by rw [← HBN.out]; exact decide_eq_true (by omega)
                            subst hf
                            clear HBN
                            have HZ : Hid (r = 12) := hid (by have := HR.out; simpa using this.symm)
                            go_wp2_with fail
                            go_ret
                            exact ⟨by rw [HZ.out]; rfl, HB2.out⟩
                          · skip
                            have hf : bn = false := by rw [← HBN.out]; exact decide_eq_false (by omega)
                            subst hf
                            have HZ : Hid (r = 0) := hid (by have := HR.out; simpa using this.symm)
                            go_wp2_with fail
                            go_ret
                            exact ⟨by rw [HZ.out]; rfl, HB2.out⟩
  · go_wp2_with fail
    refine (XZ.out _).mono ?_
    rintro e w2 ⟨rfl, hb2⟩
    have HB2 := hid (HB1.out.trans (hb2.mono HB1.out.size))
    have HK2 := hid (HK1.out.later hb2)
    clear hb2 x0 x1 x2 x3 x4 x5 x6 x7 x8 x9 x10
    obtain ⟨x0, x1, x2, x3, x4, x5, x6, x7, x8, x9, x10, -⟩ := blk11 HK2.out
    have HZ : Hid (r = 11) := hid (by have := HR.out; simpa using this.symm)
    go_wp2_with fail
    go_ret
    exact ⟨by rw [HZ.out]; rfl, HB2.out⟩
end C09
end Go.Proofs.Ytcohcanakicmpaa
namespace Go.Proofs.Ytcohcanakicmpaa
open Go.RowKit Go.Peri
namespace C09
open C01 (ofNats ofNats_size ofNats_cons putR)
open C02 (vB vB_size vB_le)
open C25 (blk11)
def e8 (n : Nat) : ByteArray := ofNats (Oct.dg 256 n 8)
theorem e8_size (n : Nat) : (e8 n).size = 8 := by unfold e8; rw [ofNats_size, Oct.dg_length]
theorem put8 (n : Nat) (hn : n < 18446744073709551616) : putR n 8 = (e8 n, 0) := by
  unfold putR
  rw [if_pos (by omega), show (8 : Int).toNat = 8 from rfl, if_pos (by omega)]
  rfl
def shN (b : Bool) : Nat := if b = true then 1 else 0
theorem shN_le (b : Bool) : shN b ≤ 1 := by unfold shN; split <;> omega
theorem vB_sh (b : Bool) : vB (shN b) = ofNats [shN b] := by unfold vB; rw [Vi.vl_small (by have := shN_le b; omega)]
/-- A span's bytes. -/
def spW (x : Sp) : ByteArray := e8 x.hi ++ e8 x.lo ++ e8 x.id ++ e8 x.up ++ (vB x.name.size ++ x.name) ++ vB x.status.toNat ++ vB x.seq.toNat ++ vB x.kids.toNat ++ ofNats [shN x.shadow] ++ vB x.start.toNat ++ vB (x.stop - x.start).toNat
theorem cat0 (s : ByteArray) : ByteArray.empty ++ s = s := ByteArray.empty_append
structure Good (x : Sp) : Prop where
  name : x.name.size ≤ 32
  nameOk : Hd.nameOk x.name = true
  zero : (C06.zeroR x.hi x.lo || decide (x.id = 0)) = false
  status : 0 ≤ x.status ∧ x.status ≤ 599
  seq : 0 ≤ x.seq ∧ x.seq ≤ 63
  kids : 0 ≤ x.kids ∧ x.kids ≤ 64
  start : 0 ≤ x.start ∧ x.start ≤ 1099511627776
  stop : x.start ≤ x.stop ∧ x.stop ≤ 1099511627776
theorem good_of {x : Sp} (h : chS x = 0) : Good x := by
  unfold chS at h
  by_cases h1 : (C06.zeroR x.hi x.lo || decide (x.id = 0)) = true
  · rw [if_pos h1] at h; exact absurd h (by decide)
  rw [if_neg h1] at h
  by_cases h2 : Hd.nameOk x.name = false
  · rw [if_pos h2] at h; exact absurd h (by decide)
  rw [if_neg h2] at h
  by_cases h3 : badN x = true
  · rw [if_pos h3] at h; exact absurd h (by decide)
  unfold badN at h3
  rw [decide_eq_true_eq] at h3
  have h2' : Hd.nameOk x.name = true := by simpa using h2
  have h4 : x.name.size ≤ 32 := by
    unfold Hd.nameOk at h2'
    simp only [Bool.and_eq_true, decide_eq_true_eq] at h2'
    exact h2'.1.2
  exact ⟨h4, h2', by simpa using h1, by omega, by omega, by omega, by omega, by omega⟩
theorem spW_size {x : Sp} (h : Good x) : (spW x).size ≤ 200 := by
  have h1 := h.name
  have h2 := h.status
  have h3 := h.seq
  have h4 := h.kids
  have h5 := h.start
  have h6 := h.stop
  have b0 := vB_le (n := x.name.size) (by omega)
  have b1 := vB_le (n := x.status.toNat) (by omega)
  have b2 := vB_le (n := x.seq.toNat) (by omega)
  have b3 := vB_le (n := x.kids.toNat) (by omega)
  have b4 := vB_le (n := x.start.toNat) (by omega)
  have b5 := vB_le (n := (x.stop - x.start).toNat) (by omega)
  unfold spW
  simp only [ByteArray.size_append, e8_size, ofNats_size, List.length_singleton]
  omega
set_option maxRecDepth 100000 in
theorem eight_any (n : Nat) (W : World) (hn : n < 18446744073709551616) : Calls Try.prog 68 #[.int .u64 n] W fun e w' => e = .returned (.string (e8 n)) ∧ Below W.heap.size W w' := by
  have X := hid (C01.rput_any n 8 W hn)
  rw [put8 n hn] at X
  go_enter Try.func68, Try.ntmps68
  go_wp2_with fail
  refine X.out.mono ?_
  rintro e w1 ⟨rfl, hb1⟩
  have HB1 := hid hb1
  clear hb1
  go_wp2_with fail
  go_ret
  exact ⟨rfl, HB1.out⟩
theorem fold_succ {l : List ByteArray} {k : Nat} (A : ByteArray) (hk : k < l.length) : (l.take (k + 1)).foldl (· ++ ·) A = (l.take k).foldl (· ++ ·) A ++ l[k]! := by
  rw [List.take_succ_eq_append_getElem hk, List.foldl_append, getElem!_pos l k hk]
  rfl
theorem fold_size {N : Nat} : ∀ (l : List ByteArray) (a : ByteArray), (∀ x ∈ l, x.size ≤ N) → (l.foldl (· ++ ·) a).size ≤ a.size + l.length * N
  | [], a, _ => by simp
  | x :: l, a, h => by
    have := fold_size l (a ++ x) (fun y hy => h y (by simp [hy]))
    have h1 := h x (by simp)
    rw [List.foldl_cons]
    rw [ByteArray.size_append] at this
    rw [List.length_cons, Nat.succ_mul]
    omega
set_option maxRecDepth 100000 in
set_option maxHeartbeats 8000000 in
theorem swrite_any (x : Sp) (W : World) (hx : x.Wf) (hr : chS x = 0) :
    Calls Try.prog 53 #[.agg #[.int .u64 x.hi, .int .u64 x.lo, .int .u64 x.id, .int .u64 x.up, .string x.name, .int .i64 x.status, .int .i64 x.seq, .int .i64 x.kids, .bool x.shadow, .int .i64 x.start, .int .i64 x.stop]] W fun e w' => e = .returned (.tuple #[.string (spW x), .int .i64 0]) ∧ Below W.heap.size W w' := by
  have G := good_of hr
  have XC := hid (fun w => scheck_any x 0 w hx hr)
  have XP : Hid (∀ (n : Nat) w, n < 18446744073709551616 → _) := hid (fun n w hn => C01.put_any n 8 w hn)
  have XT := hid (fun w => C02.vtext_any x.name w (by have := G.name; omega))
  have XV : Hid (∀ (n : Nat) w, n < 18446744073709551616 → _) := hid (fun n w hn => C02.vput_any n w hn)
  have h1 := G.name
  obtain ⟨st, hst⟩ : ∃ n : Nat, x.status = n := ⟨x.status.toNat, by have := G.status; omega⟩
  obtain ⟨sq, hsq⟩ : ∃ n : Nat, x.seq = n := ⟨x.seq.toNat, by have := G.seq; omega⟩
  obtain ⟨kd, hkd⟩ : ∃ n : Nat, x.kids = n := ⟨x.kids.toNat, by have := G.kids; omega⟩
  obtain ⟨sa, hsa⟩ : ∃ n : Nat, x.start = n := ⟨x.start.toNat, by have := G.start; omega⟩
  obtain ⟨so, hso⟩ : ∃ n : Nat, x.stop = n := ⟨x.stop.toNat, by have := G.stop; have := G.start; omega⟩
  have hb := G.status
  have hb2 := G.seq
  have hb3 := G.kids
  have hb4 := G.start
  have hb5 := G.stop
  obtain ⟨du, hdu⟩ : ∃ n : Nat, n = so - sa := ⟨_, rfl⟩
  have HSP : Hid (spW x = e8 x.hi ++ e8 x.lo ++ e8 x.id ++ e8 x.up ++ (vB x.name.size ++ x.name) ++ vB st ++ vB sq ++ vB kd ++ vB (shN x.shadow) ++ vB sa ++ vB du) := hid (by
    unfold spW
    rw [vB_sh, hst, hsq, hkd, hsa, hso, show ((so : Int) - (sa : Int)).toNat = du by omega]
    rfl)
  obtain ⟨hi, lo, id_, up, name, status, seq, kids, shadow, start, stop⟩ := x
  have hhi : hi < 18446744073709551616 := hx.hi
  have hlo : lo < 18446744073709551616 := hx.lo
  have hiD : id_ < 18446744073709551616 := hx.id
  have hup : up < 18446744073709551616 := hx.up
  dsimp only at *
  subst hst hsq hkd hsa hso
  have hdi : (so : Int) - (sa : Int) = (du : Int) := by omega
  clear hr hx G
  have hwd : IntKind.i64.wrap ((so : Int) - (sa : Int)) = (du : Int) := by rw [IntWalk.i64_in _ (by omega)]; omega
  obtain ⟨us, hus⟩ : ∃ us : List Nat, us = [hi, lo, id_, up] := ⟨_, rfl⟩
  obtain ⟨vs, hvs⟩ : ∃ vs : List Nat, vs = [st, sq, kd, shN shadow, sa, du] := ⟨_, rfl⟩
  obtain ⟨A0, hA0⟩ : ∃ A, A = (us.map e8).foldl (· ++ ·) ByteArray.empty ++ (vB name.size ++ name) := ⟨_, rfl⟩
  have hA0s : A0.size ≤ 200 := by
    have hul0 : us.length = 4 := by rw [hus]; rfl
    have f1 := fold_size (N := 8) (us.map e8) ByteArray.empty (fun y hy => by obtain ⟨n, _, rfl⟩ := List.mem_map.1 hy; rw [e8_size]; omega)
    have f2 := vB_le (n := name.size) (by omega)
    have f3 : ByteArray.empty.size = 0 := rfl
    rw [List.length_map, hul0] at f1
    rw [hA0, ByteArray.size_append, ByteArray.size_append]
    omega
  have HFIN : Hid (spW ⟨hi, lo, id_, up, name, st, sq, kd, shadow, sa, so⟩ = (vs.map vB).foldl (· ++ ·) A0) := hid (by
    rw [HSP.out, hA0, hus, hvs]
    simp only [List.map_cons, List.map_nil, List.foldl_cons, List.foldl_nil, cat0])
  have hul : us.length = 4 := by rw [hus]; rfl
  have hvl : vs.length = 6 := by rw [hvs]; rfl
  have hub : ∀ n ∈ us, n < 18446744073709551616 := by rw [hus]; simp; omega
  have hvb : ∀ n ∈ vs, n < 9223372036854775808 := by rw [hvs]; have := shN_le shadow; simp; omega
  have HUS := hid hus
  have HVS := hid hvs
  have HA0 := hid hA0
  have HUB := hid hub
  have HVB := hid hvb
  clear hus hvs HSP hA0 hub hvb hhi hlo hiD hup hdu hdi hb hb2 hb3 hb4 hb5 h1
  go_enter Try.func53, Try.ntmps53
  go_upto_region 1 with fail
  refine wp_genS ?_
  intro w1 hw1
  have hb1 : Below W.heap.size W w1 := by rw [hw1]; go_grown
  have hk1 : Blk w1 W.heap.size #[.int .u64 hi, .int .u64 lo, .int .u64 id_, .int .u64 up, .string name, .int .i64 st, .int .i64 sq, .int .i64 kd, .bool shadow, .int .i64 sa, .int .i64 so] 37 := by rw [hw1]; exact Blk.new _ _ _
  clear hw1
  have HB1 := hid hb1
  have HK1 := hid hk1
  obtain ⟨x0, x1, x2, x3, x4, x5, x6, x7, x8, x9, x10, -⟩ := blk11 hk1
  clear hb1 hk1
  go_wp2_with fail
  refine (XC.out _).mono ?_
  rintro e w2 ⟨rfl, hb2⟩
  have HB2 := hid (HB1.out.trans (hb2.mono HB1.out.size))
  have HK2 := hid (HK1.out.later hb2)
  clear hb2 x0 x1 x2 x3 x4 x5 x6 x7 x8 x9 x10 XC
  obtain ⟨x0, x1, x2, x3, x4, x5, x6, x7, x8, x9, x10, -⟩ := blk11 HK2.out
  go_upto_region 6 with fail
  refine wp_genS ?_
  intro w3 hw3
  have hb3 : Below w2.heap.size w2 w3 := by rw [hw3]; go_grown
  have hk3 : Blk w3 w2.heap.size #[.int .u64 hi, .int .u64 lo, .int .u64 id_, .int .u64 up] 33 := by rw [hw3]; exact Blk.new _ _ _
  clear hw3
  have HB3 := hid (HB2.out.trans (hb3.mono HB2.out.size))
  have HK3 := hid (HK2.out.later hb3)
  have HR3 := hid hk3
  have hl3 := hk3.lt
  have HCU : Hid (∀ k, k < 4 → w3.cell? ⟨w2.heap.size, k, none⟩ = some (.int .u64 (us[k]! : Nat))) := hid (fun k hk => by
    rw [HUS.out]
    have := hk3.cell k
    obtain rfl | rfl | rfl | rfl : k = 0 ∨ k = 1 ∨ k = 2 ∨ k = 3 := by omega
    all_goals exact this)
  clear hb3 hk3 x0 x1 x2 x3 x4 x5 x6 x7 x8 x9 x10
  go_loopw [5, 30] (fun s5 s30 wr => ∃ k : Nat, k ≤ 4 ∧ s30 = .int .i64 k ∧ s5 = .string (((us.map e8).take k).foldl (· ++ ·) ByteArray.empty) ∧ Hid (Below w3.heap.size w3 wr)) (fun _ i _ => 4 - (intOf i).toNat)
  case atStart => exact ⟨0, by omega, rfl, rfl, hid (Below.refl _ _)⟩
  case round =>
    obtain ⟨k, hk, rfl, rfl, HBR⟩ := hrel
    by_cases hk4 : k < 4
    · have c0 := (HBR.out.cell (p := ⟨w2.heap.size, k, none⟩) hl3).trans (HCU.out k hk4)
      have hkl : k < (us.map e8).length := by rw [List.length_map, hul]; exact hk4
      have hn := HUB.out us[k]! (by rw [getElem!_pos us k (by omega)]; exact List.getElem_mem _)
      have HS : Hid (((us.map e8).take (k + 1)).foldl (· ++ ·) ByteArray.empty = ((us.map e8).take k).foldl (· ++ ·) ByteArray.empty ++ e8 us[k]!) := hid (by
        rw [fold_succ _ hkl, getElem!_pos _ k hkl, List.getElem_map, getElem!_pos us k (by omega)])
      have hsz : (((us.map e8).take k).foldl (· ++ ·) ByteArray.empty).size ≤ 100 := by
        have f1 := fold_size (N := 8) ((us.map e8).take k) ByteArray.empty (fun y hy => by obtain ⟨n, _, rfl⟩ := List.mem_map.1 (List.mem_of_mem_take hy); rw [e8_size]; omega)
        have f3 : ByteArray.empty.size = 0 := rfl
        rw [List.length_take, List.length_map, hul] at f1
        omega
      generalize us[k]! = n at c0 hn HS
      generalize ((us.map e8).take k).foldl (· ++ ·) ByteArray.empty = acc at HS hsz ⊢
      have X := hid (XP.out n wr hn)
      rw [put8 n hn] at X
      have hez := e8_size n
      generalize e8 n = en at X HS hez
      have hlen : (acc.size : Int) + (en.size : Int) ≤ 9223372036854775807 := by omega
      clear hn hez
      go_wp2_with fail
      refine X.out.mono ?_
      rintro e w4 ⟨rfl, hb4⟩
      have HB4 := hid (HBR.out.trans (hb4.mono HBR.out.size))
      clear hb4 X c0
      go_wp2_with fail
      go_roundw
      case rel => exact ⟨k + 1, by omega, by go_num, by rw [HS.out], HB4⟩
      case measure => simp [intOf]; omega
    · obtain rfl : k = 4 := by omega
      have htk : Hid (((us.map e8).take 4).foldl (· ++ ·) ByteArray.empty ++ (vB name.size ++ name) = A0) := hid (by rw [HA0.out, List.take_of_length_le (by rw [List.length_map, hul]; exact Nat.le_refl _)])
      have hsz1 : (((us.map e8).take 4).foldl (· ++ ·) ByteArray.empty).size + (vB name.size ++ name).size ≤ 200 := by rw [← ByteArray.size_append, htk.out]; exact hA0s
      generalize ((us.map e8).take 4).foldl (· ++ ·) ByteArray.empty = acc at htk hsz1 ⊢
      generalize vB name.size ++ name = tx at XT htk hsz1
      have HBW := hid (HB3.out.trans (HBR.out.mono HB3.out.size))
      obtain ⟨x0, x1, x2, x3, x4, x5, x6, x7, x8, x9, x10, -⟩ := blk11 (HK3.out.later HBR.out)
      have hlen : (acc.size : Int) + (tx.size : Int) ≤ 9223372036854775807 := by omega
      go_wp2_with fail
      refine (XT.out _).mono ?_
      rintro e w4 ⟨rfl, hb4⟩
      have HB4 := hid (HBW.out.trans (hb4.mono HBW.out.size))
      have HK4 := hid ((HK3.out.later HBR.out).later hb4)
      clear hb4 x0 x1 x2 x3 x4 x5 x6 x7 x8 x9 x10 XT
      obtain ⟨x0, x1, x2, x3, x4, x5, x6, x7, x8, x9, x10, -⟩ := blk11 HK4.out
      have HEN : Hid (∀ w5 (sv : Int), sv = ((shN shadow : Nat) : Int) → w5 = w4.alloc (.cells #[.int .i64 st, .int .i64 sq, .int .i64 kd, .int .i64 sv, .int .i64 sa, .int .i64 du] 3) → Below w4.heap.size w4 w5 ∧ w4.heap.size < w5.heap.size ∧ ∀ k, k < 6 → w5.cell? ⟨w4.heap.size, k, none⟩ = some (.int .i64 (vs[k]! : Nat))) := hid (fun w5 sv hsv hw5 => by
        rw [hsv] at hw5
        have hk5 : Blk w5 w4.heap.size #[.int .i64 st, .int .i64 sq, .int .i64 kd, .int .i64 (shN shadow), .int .i64 sa, .int .i64 du] 3 := by rw [hw5]; exact Blk.new _ _ _
        refine ⟨by rw [hw5]; go_grown, hk5.lt, fun k hk => ?_⟩
        rw [HVS.out]
        have := hk5.cell k
        obtain rfl | rfl | rfl | rfl | rfl | rfl : k = 0 ∨ k = 1 ∨ k = 2 ∨ k = 3 ∨ k = 4 ∨ k = 5 := by omega
        all_goals exact this)
      have HFZ : Hid (∀ w', Below W.heap.size W w' → Ending.returned (.tuple #[.string ((vs.map vB).foldl (· ++ ·) A0), .int .i64 0]) = .returned (.tuple #[.string (spW ⟨hi, lo, id_, up, name, st, sq, kd, shadow, sa, so⟩), .int .i64 0]) ∧ Below W.heap.size W w') := hid (fun w' hb => ⟨by rw [HFIN.out], hb⟩)
      cases shadow
      all_goals
        go_upto_region 16 with fail
        refine wp_genS ?_
        intro w5 hw5
        obtain ⟨hb5, hl5, hc5⟩ := (by first | exact HEN.out w5 0 rfl hw5 | exact HEN.out w5 1 rfl hw5 : Below w4.heap.size w4 w5 ∧ w4.heap.size < w5.heap.size ∧ ∀ k, k < 6 → w5.cell? ⟨w4.heap.size, k, none⟩ = some (.int .i64 (vs[k]! : Nat)))
        have HB5 := hid (HB4.out.trans (hb5.mono HB4.out.size))
        have HC5 := hid hc5
        clear hw5 hb5 hc5 x0 x1 x2 x3 x4 x5 x6 x7 x8 x9 x10
        rw [htk.out]
        go_loopw [5, 66] (fun s5 s66 wr => ∃ k : Nat, k ≤ 6 ∧ s66 = .int .i64 k ∧ s5 = .string (((vs.map vB).take k).foldl (· ++ ·) A0) ∧ Hid (Below w5.heap.size w5 wr)) (fun _ i _ => 6 - (intOf i).toNat)
        case atStart => exact ⟨0, by omega, rfl, rfl, hid (Below.refl _ _)⟩
        case round =>
          obtain ⟨k, hk, rfl, rfl, HBS⟩ := hrel
          by_cases hk6 : k < 6
          · have c0 := (HBS.out.cell (p := ⟨w4.heap.size, k, none⟩) hl5).trans (HC5.out k hk6)
            have hkl : k < (vs.map vB).length := by rw [List.length_map, hvl]; exact hk6
            have hn := HVB.out vs[k]! (by rw [getElem!_pos vs k (by omega)]; exact List.getElem_mem _)
            have HS : Hid (((vs.map vB).take (k + 1)).foldl (· ++ ·) A0 = ((vs.map vB).take k).foldl (· ++ ·) A0 ++ vB vs[k]!) := hid (by
              rw [fold_succ _ hkl, getElem!_pos _ k hkl, List.getElem_map, getElem!_pos vs k (by omega)])
            have hsz : (((vs.map vB).take k).foldl (· ++ ·) A0).size ≤ 1000 := by
              have f1 := fold_size (N := 10) ((vs.map vB).take k) A0 (fun y hy => by
                obtain ⟨n, hn, rfl⟩ := List.mem_map.1 (List.mem_of_mem_take hy)
                exact vB_le (by have := HVB.out n hn; omega))
              rw [List.length_take, List.length_map, hvl] at f1
              omega
            generalize vs[k]! = n at c0 hn HS
            generalize ((vs.map vB).take k).foldl (· ++ ·) A0 = acc2 at HS hsz ⊢
            have hwn : IntKind.u64.wrap (n : Int) = (n : Int) := IntWalk.u64_in _ (by omega)
            have X := hid (XV.out n wr (by omega))
            have hez := vB_le (n := n) (by omega)
            generalize vB n = en at X HS hez
            have hlen2 : (acc2.size : Int) + (en.size : Int) ≤ 9223372036854775807 := by omega
            clear hn hez
            go_wp2_with fail
            refine X.out.mono ?_
            rintro e w6 ⟨rfl, hb6⟩
            have HB6 := hid (HBS.out.trans (hb6.mono HBS.out.size))
            clear hb6 X c0
            go_wp2_with fail
            go_roundw
            case rel => exact ⟨k + 1, by omega, by go_num, by rw [HS.out], HB6⟩
            case measure => simp [intOf]; omega
          · obtain rfl : k = 6 := by omega
            have hfin := HFZ.out wr (HB5.out.trans (HBS.out.mono HB5.out.size))
            have HZ := hid hfin
            have htk6 : Hid (((vs.map vB).take 6) = vs.map vB) := hid (List.take_of_length_le (by rw [List.length_map, hvl]; exact Nat.le_refl _))
            clear hfin
            rw [htk6.out]
            go_wp2_with fail
            go_ret2
            exact HZ.out
end C09
end Go.Proofs.Ytcohcanakicmpaa
namespace Go.Proofs.Ytcohcanakicmpaa
open Go.RowKit Go.Peri
namespace C09
open C01 (ofNats ofNats_size ofNats_cons putR)
open C02 (vB vB_size vB_le)
open C25 (blk11)
set_option maxRecDepth 100000 in
set_option maxHeartbeats 8000000 in
theorem rswrite_any (x : Sp) (W : World) (hx : x.Wf) (hr : chS x = 0) :
    Calls Try.prog 42 #[.agg #[.int .u64 x.hi, .int .u64 x.lo, .int .u64 x.id, .int .u64 x.up, .string x.name, .int .i64 x.status, .int .i64 x.seq, .int .i64 x.kids, .bool x.shadow, .int .i64 x.start, .int .i64 x.stop]] W fun e w' => e = .returned (.tuple #[.string (spW x), .int .i64 0]) ∧ Below W.heap.size W w' := by
  have G := good_of hr
  have XC := hid (fun w => rscheck_any x 0 w hx hr)
  have h1 := G.name
  obtain ⟨st, hst⟩ : ∃ n : Nat, x.status = n := ⟨x.status.toNat, by have := G.status; omega⟩
  obtain ⟨sq, hsq⟩ : ∃ n : Nat, x.seq = n := ⟨x.seq.toNat, by have := G.seq; omega⟩
  obtain ⟨kd, hkd⟩ : ∃ n : Nat, x.kids = n := ⟨x.kids.toNat, by have := G.kids; omega⟩
  obtain ⟨sa, hsa⟩ : ∃ n : Nat, x.start = n := ⟨x.start.toNat, by have := G.start; omega⟩
  obtain ⟨so, hso⟩ : ∃ n : Nat, x.stop = n := ⟨x.stop.toNat, by have := G.stop; have := G.start; omega⟩
  have hb := G.status
  have hb2 := G.seq
  have hb3 := G.kids
  have hb4 := G.start
  have hb5 := G.stop
  obtain ⟨du, hdu⟩ : ∃ n : Nat, n = so - sa := ⟨_, rfl⟩
  have HSP : Hid (spW x = e8 x.hi ++ e8 x.lo ++ e8 x.id ++ e8 x.up ++ (vB x.name.size ++ x.name) ++ vB st ++ vB sq ++ vB kd ++ ofNats [shN x.shadow] ++ vB sa ++ vB du) := hid (by
    unfold spW
    rw [hst, hsq, hkd, hsa, hso, show ((so : Int) - (sa : Int)).toNat = du by omega]
    rfl)
  obtain ⟨hi, lo, id_, up, name, status, seq, kids, shadow, start, stop⟩ := x
  have hhi : hi < 18446744073709551616 := hx.hi
  have hlo : lo < 18446744073709551616 := hx.lo
  have hiD : id_ < 18446744073709551616 := hx.id
  have hup : up < 18446744073709551616 := hx.up
  dsimp only at *
  subst hst hsq hkd hsa hso
  have hwd : IntKind.i64.wrap ((so : Int) - (sa : Int)) = (du : Int) := by rw [IntWalk.i64_in _ (by omega)]; omega
  have hsh := shN_le shadow
  have XE0 := hid (fun w => eight_any hi w (by omega))
  have XE1 := hid (fun w => eight_any lo w (by omega))
  have XE2 := hid (fun w => eight_any id_ w (by omega))
  have XE3 := hid (fun w => eight_any up w (by omega))
  have XE4 := hid (fun w => C02.rvtext_any name w (by omega))
  have XE5 := hid (fun w => C02.rvput_any st w (by omega))
  have XE6 := hid (fun w => C02.rvput_any sq w (by omega))
  have XE7 := hid (fun w => C02.rvput_any kd w (by omega))
  have XE8 := hid (fun w => C01.byte_any (shN shadow) w (by omega))
  have XE9 := hid (fun w => C02.rvput_any sa w (by omega))
  have XEA := hid (fun w => C02.rvput_any du w (by omega))
  rw [Nat.mod_eq_of_lt (show shN shadow < 256 by omega)] at XE8
  obtain ⟨p0, hp0⟩ : ∃ p, p = e8 hi := ⟨_, rfl⟩
  have z0 : p0.size ≤ 50 := by rw [hp0, e8_size]; omega
  obtain ⟨p1, hp1⟩ : ∃ p, p = e8 lo := ⟨_, rfl⟩
  have z1 : p1.size ≤ 50 := by rw [hp1, e8_size]; omega
  obtain ⟨p2, hp2⟩ : ∃ p, p = e8 id_ := ⟨_, rfl⟩
  have z2 : p2.size ≤ 50 := by rw [hp2, e8_size]; omega
  obtain ⟨p3, hp3⟩ : ∃ p, p = e8 up := ⟨_, rfl⟩
  have z3 : p3.size ≤ 50 := by rw [hp3, e8_size]; omega
  obtain ⟨p4, hp4⟩ : ∃ p, p = (vB name.size ++ name) := ⟨_, rfl⟩
  have z4 : p4.size ≤ 50 := by rw [hp4, ByteArray.size_append]; have := vB_le (n := name.size) (by omega); omega
  obtain ⟨p5, hp5⟩ : ∃ p, p = vB st := ⟨_, rfl⟩
  have z5 : p5.size ≤ 50 := by rw [hp5]; have := vB_le (n := st) (by omega); omega
  obtain ⟨p6, hp6⟩ : ∃ p, p = vB sq := ⟨_, rfl⟩
  have z6 : p6.size ≤ 50 := by rw [hp6]; have := vB_le (n := sq) (by omega); omega
  obtain ⟨p7, hp7⟩ : ∃ p, p = vB kd := ⟨_, rfl⟩
  have z7 : p7.size ≤ 50 := by rw [hp7]; have := vB_le (n := kd) (by omega); omega
  obtain ⟨p8, hp8⟩ : ∃ p, p = ofNats [shN shadow] := ⟨_, rfl⟩
  have z8 : p8.size ≤ 50 := by rw [hp8, ofNats_size]; simp
  obtain ⟨p9, hp9⟩ : ∃ p, p = vB sa := ⟨_, rfl⟩
  have z9 : p9.size ≤ 50 := by rw [hp9]; have := vB_le (n := sa) (by omega); omega
  obtain ⟨p10, hp10⟩ : ∃ p, p = vB du := ⟨_, rfl⟩
  have z10 : p10.size ≤ 50 := by rw [hp10]; have := vB_le (n := du) (by omega); omega
  have w0 : IntKind.u64.wrap (st : Int) = (st : Int) := IntWalk.u64_in _ (by omega)
  have w1 : IntKind.u64.wrap (sq : Int) = (sq : Int) := IntWalk.u64_in _ (by omega)
  have w2 : IntKind.u64.wrap (kd : Int) = (kd : Int) := IntWalk.u64_in _ (by omega)
  have w3 : IntKind.u64.wrap (sa : Int) = (sa : Int) := IntWalk.u64_in _ (by omega)
  have w4 : IntKind.u64.wrap (du : Int) = (du : Int) := IntWalk.u64_in _ (by omega)
  rw [← hp0, ← hp1, ← hp2, ← hp3, ← hp4, ← hp5, ← hp6, ← hp7, ← hp8, ← hp9, ← hp10] at HSP
  rw [← hp0] at XE0
  rw [← hp1] at XE1
  rw [← hp2] at XE2
  rw [← hp3] at XE3
  rw [← hp4] at XE4
  rw [← hp5] at XE5
  rw [← hp6] at XE6
  rw [← hp7] at XE7
  rw [← hp8] at XE8
  rw [← hp9] at XE9
  rw [← hp10] at XEA
  have y1 : (((p0).size : Nat) : Int) + (p1.size : Int) ≤ 9223372036854775807 := by (try simp only [ByteArray.size_append]); omega
  have y2 : (((p0 ++ p1).size : Nat) : Int) + (p2.size : Int) ≤ 9223372036854775807 := by (try simp only [ByteArray.size_append]); omega
  have y3 : (((p0 ++ p1 ++ p2).size : Nat) : Int) + (p3.size : Int) ≤ 9223372036854775807 := by (try simp only [ByteArray.size_append]); omega
  have y4 : (((p0 ++ p1 ++ p2 ++ p3).size : Nat) : Int) + (p4.size : Int) ≤ 9223372036854775807 := by (try simp only [ByteArray.size_append]); omega
  have y5 : (((p0 ++ p1 ++ p2 ++ p3 ++ p4).size : Nat) : Int) + (p5.size : Int) ≤ 9223372036854775807 := by (try simp only [ByteArray.size_append]); omega
  have y6 : (((p0 ++ p1 ++ p2 ++ p3 ++ p4 ++ p5).size : Nat) : Int) + (p6.size : Int) ≤ 9223372036854775807 := by (try simp only [ByteArray.size_append]); omega
  have y7 : (((p0 ++ p1 ++ p2 ++ p3 ++ p4 ++ p5 ++ p6).size : Nat) : Int) + (p7.size : Int) ≤ 9223372036854775807 := by (try simp only [ByteArray.size_append]); omega
  have y8 : (((p0 ++ p1 ++ p2 ++ p3 ++ p4 ++ p5 ++ p6 ++ p7).size : Nat) : Int) + (p8.size : Int) ≤ 9223372036854775807 := by (try simp only [ByteArray.size_append]); omega
  have y9 : (((p0 ++ p1 ++ p2 ++ p3 ++ p4 ++ p5 ++ p6 ++ p7 ++ p8).size : Nat) : Int) + (p9.size : Int) ≤ 9223372036854775807 := by (try simp only [ByteArray.size_append]); omega
  have y10 : (((p0 ++ p1 ++ p2 ++ p3 ++ p4 ++ p5 ++ p6 ++ p7 ++ p8 ++ p9).size : Nat) : Int) + (p10.size : Int) ≤ 9223372036854775807 := by (try simp only [ByteArray.size_append]); omega
  clear hp0 hp1 hp2 hp3 hp4 hp5 hp6 hp7 hp8 hp9 hp10 z0 z1 z2 z3 z4 z5 z6 z7 z8 z9 z10 hr hx G hhi hlo hiD hup hdu hb hb2 hb3 hb4 hb5 h1
  have HSH : Hid (∀ b : Bool, shadow = b → shN shadow = if b = true then 1 else 0) := hid (fun b hb => by rw [hb]; rfl)
  clear hsh
  go_enter Try.func42, Try.ntmps42
  go_upto_region 1 with fail
  refine wp_genS ?_
  intro w1 hw1
  have hb1 : Below W.heap.size W w1 := by rw [hw1]; go_grown
  have hk1 : Blk w1 W.heap.size #[.int .u64 hi, .int .u64 lo, .int .u64 id_, .int .u64 up, .string name, .int .i64 st, .int .i64 sq, .int .i64 kd, .bool shadow, .int .i64 sa, .int .i64 so] 37 := by rw [hw1]; exact Blk.new _ _ _
  clear hw1
  have HB1 := hid hb1
  have HK1 := hid hk1
  obtain ⟨x0, x1, x2, x3, x4, x5, x6, x7, x8, x9, x10, -⟩ := blk11 hk1
  clear hb1 hk1
  go_wp2_with fail
  refine (XC.out _).mono ?_
  rintro e w2 ⟨rfl, hb2⟩
  have HB2 := hid (HB1.out.trans (hb2.mono HB1.out.size))
  have HK2 := hid (HK1.out.later hb2)
  clear hb2 x0 x1 x2 x3 x4 x5 x6 x7 x8 x9 x10 XC
  obtain ⟨x0, x1, x2, x3, x4, x5, x6, x7, x8, x9, x10, -⟩ := blk11 HK2.out
  have hlx := HK2.out.lt
  obtain ⟨sv, hsv⟩ : ∃ n, n = shN shadow := ⟨_, rfl⟩
  rw [← hsv] at XE8
  have HSV := hid hsv
  clear hsv
  cases shadow
  · obtain rfl : sv = 0 := HSV.out
    go_wp2_with fail
    refine wp_region_bw (by kernel_rfl) (by kernel_rfl) ?_
    repeat (go_big_quiet_step ((first | (go_at_call 68; first | (with_reducible exact bw_call (XE0.out _)) | (with_reducible exact bw_call (XE1.out _)) | (with_reducible exact bw_call (XE2.out _)) | (with_reducible exact bw_call (XE3.out _))) | (go_at_call 69; first | (with_reducible exact bw_call (XE4.out _))) | (go_at_call 41; first | (with_reducible exact bw_call (XE5.out _)) | (with_reducible exact bw_call (XE6.out _)) | (with_reducible exact bw_call (XE7.out _)) | (with_reducible exact bw_call (XE9.out _)) | (with_reducible exact bw_call (XEA.out _))) | (go_at_call 67; first | (with_reducible exact bw_call (XE8.out _))))))
    refine wpQuiet_nil ?_
    rintro w3 ⟨⟨_, hb3⟩, rfl⟩
    have HB3 := hid (HB2.out.trans (hb3.mono HB2.out.size))
    clear hb3
    go_wp2_with fail
    go_ret2
    exact ⟨by rw [HSP.out]; rfl, HB3.out⟩
  · obtain rfl : sv = 1 := HSV.out
    go_wp2_with fail
    refine wp_region_bw (by kernel_rfl) (by kernel_rfl) ?_
    repeat (go_big_quiet_step ((first | (go_at_call 68; first | (with_reducible exact bw_call (XE0.out _)) | (with_reducible exact bw_call (XE1.out _)) | (with_reducible exact bw_call (XE2.out _)) | (with_reducible exact bw_call (XE3.out _))) | (go_at_call 69; first | (with_reducible exact bw_call (XE4.out _))) | (go_at_call 41; first | (with_reducible exact bw_call (XE5.out _)) | (with_reducible exact bw_call (XE6.out _)) | (with_reducible exact bw_call (XE7.out _)) | (with_reducible exact bw_call (XE9.out _)) | (with_reducible exact bw_call (XEA.out _))) | (go_at_call 67; first | (with_reducible exact bw_call (XE8.out _))))))
    refine wpQuiet_nil ?_
    rintro w3 ⟨⟨_, hb3⟩, rfl⟩
    have HB3 := hid (HB2.out.trans (hb3.mono HB2.out.size))
    clear hb3
    go_wp2_with fail
    go_ret2
    exact ⟨by rw [HSP.out]; rfl, HB3.out⟩
end C09
end Go.Proofs.Ytcohcanakicmpaa
