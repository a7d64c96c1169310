/- Walks of layer 7 (parent): whether pieces of a text are digits; no condition. -/
import Derived.Test.YtpamnknfccmgcaaD07
import Derived.Lib.MinMax
namespace Go.Proofs.Ytpamnknfccmgcaa
open Go.RowKit Go.Peri
namespace C07
open C01 C06
def hexB (b : UInt8) : Bool := decide (hv b.toNat < 16)
def hexAll (s : ByteArray) : Bool := s.data.toList.all hexB
theorem unhex_err (s : ByteArray) (h1 : 1 ≤ s.size) (h2 : s.size ≤ 16) : (unhexR s).2 = if hexAll s then 0 else 3 := by
  have hiff : (∀ d ∈ hvs s s.size, d < 16) ↔ hexAll s = true := by
    rw [hvs_all, hexAll, List.all_eq_true]
    constructor
    · intro h x hx
      exact decide_eq_true (h _ (List.mem_map.2 ⟨_, List.mem_map.2 ⟨x, hx, rfl⟩, rfl⟩))
    · intro h d hd
      obtain ⟨y, hy, rfl⟩ := List.mem_map.1 hd
      obtain ⟨x, hx, rfl⟩ := List.mem_map.1 hy
      exact of_decide_eq_true (h x hx)
  unfold unhexR
  by_cases h : hexAll s = true
  · rw [if_pos ⟨h1, h2, hiff.2 h⟩, if_pos h]
  · rw [if_neg (fun h3 => h (hiff.1 h3.2.2)), if_neg h]
theorem ext_list (s : ByteArray) (a c : Nat) : (s.extract a c).data.toList = (s.data.toList.drop a).take (c - a) := by
  rw [ByteArray.data_extract, Array.toList_extract, List.extract_eq_take_drop]
theorem hexAll_split (s : ByteArray) (a b c : Nat) (h1 : a ≤ b) (h2 : b ≤ c) : hexAll (s.extract a c) = (hexAll (s.extract a b) && hexAll (s.extract b c)) := by
  unfold hexAll
  rw [ext_list, ext_list, ext_list, ← List.all_append]
  congr 1
  have e : s.data.toList.drop b = (s.data.toList.drop a).drop (b - a) := by rw [List.drop_drop]; congr 1; omega
  have e3 : ((s.data.toList.drop a).drop (b - a)).take (c - b) = ((s.data.toList.drop a).take (c - a)).drop (b - a) := by
    rw [List.drop_take]; congr 1; omega
  have e2 : (List.drop a s.data.toList).take (b - a) = ((List.drop a s.data.toList).take (c - a)).take (b - a) := by
    rw [List.take_take]; congr 1; omega
  rw [e, e3, e2, List.take_append_drop]
theorem hexAll_one (s : ByteArray) (k : Nat) (h : k < s.size) : hexAll (s.extract k (k + 1)) = hexB s[k] := by
  unfold hexAll
  have hk : k < s.data.toList.length := by simpa using h
  rw [ext_list, show k + 1 - k = 1 by omega, List.drop_eq_getElem_cons hk]
  simp only [List.take_succ_cons, List.take_zero, List.all_cons, List.all_nil, Bool.and_true]
  rfl
theorem hexAll_nil (s : ByteArray) (a : Nat) : hexAll (s.extract a a) = true := by
  unfold hexAll; rw [ext_list, Nat.sub_self]; rfl

set_option maxRecDepth 100000 in
set_option maxHeartbeats 1000000 in
theorem pdigits_any (s : ByteArray) (a m b : Nat) (r : Bool) (W : World) (hb : b = a + 2 * m) (hm : b ≤ s.size) (hs : s.size ≤ 1000000000000000) (hr : hexAll (s.extract a b) = r) :
    Calls Try.prog 189 #[.agg #[.int .i64 a, .int .i64 b], .string s] W fun e w' => e = .returned (.bool r) ∧ Below W.heap.size W w' := by
  have HR := hid hr
  have HBB := hid hb
  have HB0 : Hid (Below W.heap.size W (W.alloc (.cells #[.int .i64 a, .int .i64 b] 140))) := by show Below _ _ _; go_grown
  clear hr hb
  go_enter Try.func189, Try.ntmps189
  go_wp2_with fail
  have hab : a ≤ b := by have := HBB.out; omega
  go_loopw [5] (fun i wr => W.alloc (.cells #[.int .i64 a, .int .i64 b] 140) = wr ∧ ∃ k c : Nat, k ≤ m ∧ c = a + 2 * k ∧ i = .int .i64 c ∧ hexAll (s.extract a c) = true) (fun i _ => b - (intOf i).toNat)
  case atStart => exact ⟨rfl, 0, a, Nat.zero_le _, rfl, rfl, hexAll_nil s a⟩
  case round =>
    obtain ⟨rfl, k, c, hk, hc, rfl, hall⟩ := hrel
    have HA := hid hall
    clear hall
    have HC := hid hc
    clear hc
    by_cases hlt : c < b
    · have hc2 : c + 2 ≤ b := by have := HC.out; have := HBB.out; omega
      have hsp := hexAll_split s a c (c + 2) (by have := HC.out; omega) (by omega)
      rw [HA.out, Bool.true_and] at hsp
      have hspb := hexAll_split s a (c + 2) b (by have := HC.out; omega) (by omega)
      rw [hsp] at hspb
      have hsz : (s.extract c (c + 2)).size = 2 := by rw [ByteArray.size_extract]; omega
      have he := unhex_err (s.extract c (c + 2)) (by omega) (by omega)
      obtain ⟨q, hq⟩ : ∃ q, hexAll (s.extract c (c + 2)) = q := ⟨_, rfl⟩
      rw [hq] at hsp hspb he
      obtain ⟨u, e, hue⟩ : ∃ u e, unhexR (s.extract c (c + 2)) = (u, e) := ⟨_, _, rfl⟩
      have HU := hid (fun w => unhex_val (s.extract c (c + 2)) w u e (by omega) hue)
      rw [hue] at he
      have he' : e = if q then 0 else 3 := he
      have hmin : min ((c : Int) + 2) (b : Int) = ((c + 2 : Nat) : Int) := by omega
      have t1 : (0 : Int) ≤ (c : Int) := by omega
      have t2 : (c : Int) ≤ ((c + 2 : Nat) : Int) := by omega
      have t3 : ((c + 2 : Nat) : Int) ≤ (s.size : Int) := by omega
      have HSP := hid hsp
      have HSPB := hid hspb
      clear hsp hspb hq hue he hsz
      cases q
      · rw [if_neg (by simp)] at he'
        subst he'
        go_wp2_with fail
        refine (HU.out _).mono ?_
        rintro e w' ⟨rfl, rfl⟩
        go_wp2_with fail
        go_ret
        exact ⟨by rw [← HR.out, HSPB.out]; rfl, HB0.out⟩
      · rw [if_pos rfl] at he'
        subst he'
        go_wp2_with fail
        refine (HU.out _).mono ?_
        rintro e w' ⟨rfl, rfl⟩
        go_wp2_with fail
        go_roundw
        case rel => exact ⟨by first | rfl | trivial, k + 1, c + 2, by have := HC.out; have := HBB.out; omega, by have := HC.out; omega, by go_num, HSP.out⟩
        case measure => simp [intOf]; omega
    · obtain rfl : c = b := by have := HC.out; have := HBB.out; omega
      go_wp2_with fail
      go_ret
      exact ⟨by rw [← HR.out, HA.out]; rfl, HB0.out⟩

set_option maxRecDepth 100000 in
set_option maxHeartbeats 1000000 in
theorem rdigits_any (s : ByteArray) (r : Bool) (W : World) (hs : s.size ≤ 1000000000000000) (hr : hexAll s = r) :
    Calls Try.prog 192 #[.string s] W fun e w' => e = .returned (.bool r) ∧ W = w' := by
  have HR := hid hr
  clear hr
  go_enter Try.func192, Try.ntmps192
  go_wp2_with fail
  go_loopw [3] (fun i wr => W = wr ∧ ∃ k : Nat, k ≤ s.size ∧ i = .int .i64 k ∧ (s.data.toList.take k).all hexB = true) (fun i _ => s.size - (intOf i).toNat)
  case atStart => exact ⟨rfl, 0, Nat.zero_le _, rfl, by simp⟩
  case round =>
    obtain ⟨rfl, k, hk, rfl, hall⟩ := hrel
    have HA := hid hall
    clear hall
    by_cases hlt : k < s.size
    · have hlt' : k < s.data.toList.length := by simpa using hlt
      have e1 : s.data.toList[k] = s[k] := rfl
      have HNext : Hid (hexB s[k] = true → (s.data.toList.take (k + 1)).all hexB = true) := hid (fun h => by
        rw [List.take_succ_eq_append_getElem hlt', List.all_append, HA.out, e1]; simp [h])
      have HHit : Hid (hexB s[k] = false → hexAll s = false) := hid (fun h => by
        unfold hexAll; rw [List.all_eq_false]; exact ⟨s.data.toList[k], List.getElem_mem hlt', by rw [e1]; simp [h]⟩)
      have hone := hexAll_one s k hlt
      have hsz : (s.extract k (k + 1)).size = 1 := by rw [ByteArray.size_extract]; omega
      have he := unhex_err (s.extract k (k + 1)) (by omega) (by omega)
      rw [hone] at he
      obtain ⟨q, hq⟩ : ∃ q, hexB s[k] = q := ⟨_, rfl⟩
      rw [hq] at HNext HHit he
      obtain ⟨u, e, hue⟩ : ∃ u e, unhexR (s.extract k (k + 1)) = (u, e) := ⟨_, _, rfl⟩
      have HU := hid (fun w => runhex_val (s.extract k (k + 1)) w u e (by omega) hue)
      rw [hue] at he
      have he' : e = if q then 0 else 3 := he
      have t1 : (0 : Int) ≤ (k : Int) := by omega
      have t3 : (k : Int) + 1 ≤ (s.size : Int) := by omega
      clear hone hq hue he hsz e1 hlt'
      cases q
      · rw [if_neg (by simp)] at he'
        subst he'
        go_wp2_with fail
        refine (HU.out _).mono ?_
        rintro e w' ⟨rfl, rfl⟩
        go_wp2_with fail
        go_ret
        exact ⟨by rw [← HR.out, HHit.out (by simp)]; rfl, rfl⟩
      · rw [if_pos rfl] at he'
        subst he'
        go_wp2_with fail
        refine (HU.out _).mono ?_
        rintro e w' ⟨rfl, rfl⟩
        go_wp2_with fail
        go_roundw
        case rel => exact ⟨by first | rfl | trivial, k + 1, by omega, by go_num, HNext.out (by simp)⟩
        case measure => simp [intOf]; omega
    · obtain rfl : k = s.size := by omega
      have hd : Hid (hexAll s = true) := hid (by have := HA.out; rwa [List.take_of_length_le (by simp)] at this)
      go_wp2_with fail
      go_ret
      exact ⟨by rw [← HR.out, hd.out]; rfl, rfl⟩
end C07
end Go.Proofs.Ytpamnknfccmgcaa
