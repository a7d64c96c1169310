/- Walks of layer 21 (ring), continued: the methods over a ring's lines; no condition. -/
import Derived.Test.YtefaegoajjcfjaaC21

namespace Go.Proofs.Ytefaegoajjcfjaa
open Go.RowKit Go.Peri
namespace C21

def strs (ls : List ByteArray) : List Value := ls.map Value.string

def RingIs (w : World) (g h n : Nat) (ls : List ByteArray) (l : Int) : Prop :=
  ∃ xs first size, RingB w g h (strs xs) first size l ∧ xs.length = n ∧ ls = Ring.lines ByteArray.empty xs first size

theorem RingIs.only {S : List Nat} {w w' : World} {g h n : Nat} {ls : List ByteArray} {l : Int} (hr : RingIs w g h n ls l) (ho : Only S w w') (hg : g ∉ S) (hh : h ∉ S) : RingIs w' g h n ls l := by
  obtain ⟨xs, first, size, ⟨h1, h2, h3, h4⟩, h5⟩ := hr
  exact ⟨xs, first, size, ⟨h1, h2.only ho hg, h3.only ho hh, h4⟩, h5⟩
theorem RingIs.lt {w : World} {g h n : Nat} {ls : List ByteArray} {l : Int} (hr : RingIs w g h n ls l) : g < w.heap.size ∧ h < w.heap.size := by
  obtain ⟨xs, first, size, ⟨h1, h2, h3, h4⟩, h5⟩ := hr
  exact ⟨h2.lt, h3.lt⟩
theorem RingIs.below {w w' : World} {g h n : Nat} {ls : List ByteArray} {l : Int} (hr : RingIs w g h n ls l) (hb : Below w.heap.size w w') : RingIs w' g h n ls l :=
  hr.only (S := []) (Only.of_below hb) (by simp) (by simp)
theorem RingIs.bounds {w : World} {g h n : Nat} {ls : List ByteArray} {l : Int} (hr : RingIs w g h n ls l) : ls.length ≤ n ∧ n ≤ 64 ∧ 0 ≤ l ∧ l ≤ 1099511627776 := by
  obtain ⟨xs, first, size, ⟨h1, h2, h3, h4, h5, h6, h7, h8⟩, rfl, rfl⟩ := hr
  simp only [strs, List.length_map] at h5 h6
  rw [Ring.lines_length]
  exact ⟨h5, h6, h7, h8⟩

theorem put_any (g h n : Nat) (s : ByteArray) (ls : List ByteArray) (l : Int) (w : World) (hr : RingIs w g h n ls l) :
    Calls Try.prog 67 #[.pointer (some ⟨g, 0, none⟩), .string s] w fun e w' => e = .returned (.tuple #[]) ∧ Only [g, h] w w' ∧ RingIs w' g h n (Ring.put n (ls, l) s).1 (Ring.put n (ls, l) s).2 := by
  obtain ⟨xs, first, size, hb, rfl, rfl⟩ := hr
  have hl : (strs xs).length = xs.length := by simp [strs]
  have hbb := hb
  obtain ⟨h1, h2, h3, h4, h5, h6, h7, h8⟩ := hbb
  rw [hl] at h4 h5 h6
  unfold Ring.put
  simp only [Ring.lines_length]
  by_cases hn : xs.length = 0
  · have hx : xs = [] := List.length_eq_zero_iff.1 hn
    subst hx
    have : size = 0 := by simpa using h5
    subst this
    refine (put_zero g h s first 0 l w hb).mono ?_
    rintro e w' ⟨rfl, ho, hb'⟩
    exact ⟨rfl, ho, [], first, 0, by simpa [strs] using hb', rfl, by simp [Ring.lines]⟩
  · by_cases hs : size = xs.length
    · subst hs
      rw [← hl] at hb
      refine (put_full g h s (strs xs) first l w hb (by omega)).mono ?_
      rintro e w' ⟨rfl, ho, hb'⟩
      rw [if_pos (by omega)]
      refine ⟨rfl, ho, xs.set first s, (first + 1) % xs.length, xs.length, ?_, by simp, ?_⟩
      · have e1 : strs (xs.set first s) = (strs xs).set first (.string s) := by simp [strs, List.map_set]
        rw [e1]; rw [hl] at hb'; exact hb'
      · exact (Ring.put_full _ xs first s (by omega)).symm
    · refine (put_more g h s (strs xs) first size l w hb (by omega)).mono ?_
      rintro e w' ⟨rfl, ho, hb'⟩
      rw [if_neg (by omega)]
      refine ⟨rfl, ho, xs.set ((first + size) % xs.length) s, first, size + 1, ?_, by simp, ?_⟩
      · have e1 : strs (xs.set ((first + size) % xs.length) s) = (strs xs).set ((first + size) % xs.length) (.string s) := by simp [strs, List.map_set]
        rw [e1]; rw [hl] at hb'; exact hb'
      · have := Ring.put_more ByteArray.empty xs first size s (by omega) (by omega)
        exact this.symm

set_option maxRecDepth 100000 in
theorem len_any (g h n : Nat) (ls : List ByteArray) (l : Int) (w : World) (hr : RingIs w g h n ls l) :
    Calls Try.prog 32 #[.pointer (some ⟨g, 0, none⟩)] w fun e w' => e = .returned (.int .i64 ls.length) ∧ w = w' := by
  obtain ⟨xs, first, size, ⟨h1, h2, h3, h4, h5, h6, h7, h8⟩, rfl, rfl⟩ := hr
  have c2 : w.cell? ⟨g, 2, none⟩ = some (.int .i64 size) := h2.cell 2
  rw [Ring.lines_length]
  clear h2 h3 h4 h5
  go_enter Try.func32, Try.ntmps32
  go_wp2
  go_ret
  exact ⟨rfl, rfl⟩
set_option maxRecDepth 100000 in
theorem lost_any (g h n : Nat) (ls : List ByteArray) (l : Int) (w : World) (hr : RingIs w g h n ls l) :
    Calls Try.prog 33 #[.pointer (some ⟨g, 0, none⟩)] w fun e w' => e = .returned (.int .i64 l) ∧ w = w' := by
  obtain ⟨xs, first, size, ⟨h1, h2, h3, h4, h5, h6, h7, h8⟩, rfl, rfl⟩ := hr
  have c3 : w.cell? ⟨g, 3, none⟩ = some (.int .i64 l) := h2.cell 3
  clear h2 h3 h4 h5
  go_enter Try.func33, Try.ntmps33
  go_wp2_with (go_at_call 68; refine (load_any _ _ _ _ c3).mono ?_; rintro e w' ⟨rfl, rfl⟩)
  go_ret
  exact ⟨rfl, rfl⟩
theorem len_nil (w : World) : Calls Try.prog 32 #[.pointer none] w fun e w' => e = .returned (.int .i64 0) ∧ w = w' := by
  go_enter Try.func32, Try.ntmps32
  go_wp2
  go_ret
  exact ⟨rfl, rfl⟩
theorem lost_nil (w : World) : Calls Try.prog 33 #[.pointer none] w fun e w' => e = .returned (.int .i64 0) ∧ w = w' := by
  go_enter Try.func33, Try.ntmps33
  go_wp2
  go_ret
  exact ⟨rfl, rfl⟩
theorem all_nil (w : World) : Calls Try.prog 31 #[.pointer none] w fun e w' => e = .returned (.slice none 0 0) ∧ w = w' := by
  go_enter Try.func31, Try.ntmps31
  go_wp2
  go_ret
  exact ⟨rfl, rfl⟩
theorem puts_nil (v : Value) (w : World) : Calls Try.prog 28 #[.pointer none, v] w fun e w' => e = .returned (.tuple #[]) ∧ w = w' := by
  go_enter Try.func28, Try.ntmps28
  go_wp2
  refine bodyPost_ret (results_none rfl _ _ _) rfl ?_
  exact ⟨rfl, rfl⟩

set_option maxRecDepth 100000 in
theorem puts_any {p : Nat → Prop} (g h n : Nat) (v : Value) (ss : List ByteArray) (ls : List ByteArray) (l : Int) (w : World) (hr : RingIs w g h n ls l) (hv : Vals p w v (strs ss)) (hp : ∀ b, p b → b < w.heap.size ∧ b ∉ [g, h]) :
    Calls Try.prog 28 #[.pointer (some ⟨g, 0, none⟩), v] w fun e w' => e = .returned (.tuple #[]) ∧ Only [g, h] w w' ∧ RingIs w' g h n (Ring.puts n (ls, l) ss).1 (Ring.puts n (ls, l) ss).2 := by
  obtain ⟨a, cap, rfl, hlc, hcm, _, hcell⟩ := hv
  simp only [strs, List.length_map] at hlc hcell ⊢
  unfold maxLen at hcm
  have HR := hid hr
  have HC := hid hcell
  have HP := hid hp
  clear hr hcell hp
  go_enter Try.func28, Try.ntmps28
  go_wp2_with fail
  go_loopw [10] (fun i wr => ∃ k : Nat, k ≤ ss.length ∧ i = .int .i64 k ∧ Only [g, h] w wr ∧ RingIs wr g h n (Ring.puts n (ls, l) (ss.take k)).1 (Ring.puts n (ls, l) (ss.take k)).2) (fun i _ => ss.length - (intOf i).toNat)
  case atStart => exact ⟨0, Nat.zero_le _, rfl, Only.refl _ _, by simpa [Ring.puts] using HR.out⟩
  case round =>
    obtain ⟨k, hk, rfl, ho, hrk⟩ := hrel
    have HO := hid ho
    have HK := hid hrk
    clear ho hrk
    by_cases hlt : k < ss.length
    · obtain ⟨b, off, rfl, hb, hc⟩ := HC.out.resolve_left (by intro e; rw [List.map_eq_nil_iff] at e; rw [e] at hlt; simp at hlt)
      have hpb := HP.out b hb
      have c0 : wr.cell? ⟨b, off + k, none⟩ = some (.string (ss.getD k ByteArray.empty)) := by
        rw [HO.out.cell (p := ⟨b, off + k, none⟩) hpb.1 hpb.2, hc k (by simpa using hlt)]
        simp [List.getD, hlt]
      have HS : Hid (Ring.puts n (ls, l) (ss.take (k + 1)) = Ring.put n (Ring.puts n (ls, l) (ss.take k)) (ss.getD k ByteArray.empty)) := by
        show _ = _
        rw [List.take_succ_eq_append_getElem hlt, Ring.puts_snoc]
        simp [List.getD, hlt]
      generalize ss.getD k ByteArray.empty = s at c0 HS
      clear hc hpb hb
      go_wp2_with fail
      refine (put_any g h n s _ _ _ HK.out).mono ?_
      rintro e w1 ⟨rfl, ho1, hr1⟩
      have HO1 := hid (HO.out.trans ho1)
      have HR1 := hid hr1
      clear ho1 hr1
      go_wp2_with fail
      go_roundw
      case rel => exact ⟨k + 1, by omega, by go_num, HO1.out, by rw [HS.out]; exact HR1.out⟩
      case measure => simp [intOf]; omega
    · obtain rfl : k = ss.length := by omega
      go_wp2_with fail
      go_end0
      have := HK.out
      rw [List.take_length] at this
      exact ⟨rfl, HO.out, this⟩
end C21
end Go.Proofs.Ytefaegoajjcfjaa
