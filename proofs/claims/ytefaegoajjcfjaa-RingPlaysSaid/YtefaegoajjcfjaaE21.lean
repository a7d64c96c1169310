/- Walks of layer 21 (ring), continued: New, All, the reference's New and Put, Texts; no condition. -/
import Derived.Test.YtefaegoajjcfjaaD21
namespace Go.Proofs.Ytefaegoajjcfjaa
open Go.RowKit Go.Peri
namespace C21

theorem elem34 : Elem Try.prog 34 9 1 16 := Elem.mk' (z := .string ByteArray.empty) Try.underlying34 (by kernel_rfl) rfl (by decide)

def roomOf (n : Int) : Nat := (max 0 (min n 64)).toNat

def NewQ (w : World) (n : Nat) (v : Value) (w' : World) : Prop := ∃ g h, v = .pointer (some ⟨g, 0, none⟩) ∧ Below w.heap.size w w' ∧ w.heap.size ≤ g ∧ w.heap.size ≤ h ∧ RingIs w' g h n [] 0
set_option maxRecDepth 100000 in
theorem new_any (room : Int) (w : World) :
    Calls Try.prog 26 #[.int .i64 room] w (Ret (NewQ w (roomOf room))) := by
  obtain ⟨i, hi, hz, hsz, hby⟩ := info_parts (P := Try.prog) (e := 9) (z := .string ByteArray.empty) (size := 1) (bytes := 16) (by kernel_rfl)
  have key : ∀ n : Nat, n ≤ 64 → ∀ w : World, (Instr.makeSlice 34 (.int .i64 (n : Int)) (.int .i64 (n : Int))).run Try.prog w = .ok (.slice (some ⟨w.heap.size, 0, none⟩) n n) (w.alloc (.cells (strs (List.replicate n ByteArray.empty)).toArray 9)) := by
    intro n hn w
    have := run_make_n (P := Try.prog) 34 9 Try.underlying34 hi hz n (by rw [hby]; omega) (by omega) w
    rw [this, hsz, Nat.mul_one]
    have e2 : madeCells (Value.string ByteArray.empty).cells n = (strs (List.replicate n ByteArray.empty)).toArray := by
      apply Array.toList_inj.1
      rw [show (Value.string ByteArray.empty).cells = #[Value.string ByteArray.empty] from rfl, toList_madeCells_one]
      simp [strs]
    rw [e2]
  clear hi hz hsz hby
  have fin : ∀ n : Nat, n ≤ 64 → ∀ w : World, RingIs ((w.alloc (.cells (strs (List.replicate n ByteArray.empty)).toArray 9)).alloc (.cells #[.slice (some ⟨w.heap.size, 0, none⟩) n n, .int .i64 0, .int .i64 0, .int .i64 0] 111)) (w.heap.size + 1) w.heap.size n [] 0 := by
    intro n hn w
    refine ⟨List.replicate n ByteArray.empty, 0, 0, ⟨by omega, ?_, (Blk.new _ _ _).alloc _, .inr rfl, Nat.zero_le _, by simpa [strs] using hn, by omega, by omega⟩, by simp, by simp [Ring.lines]⟩
    simp only [strs, List.length_map, List.length_replicate]
    exact Blk.new' _ _ _ (by simp)
  have KEY := hid key
  have FIN := hid fin
  clear key fin
  by_cases h1 : (64 : Int) < room
  · have hr : Hid (roomOf room = 64) := by show _ = _; unfold roomOf; omega
    have k64 : (Instr.makeSlice 34 (.int .i64 64) (.int .i64 64)).run Try.prog w = .ok (.slice (some ⟨w.heap.size, 0, none⟩) 64 64) (w.alloc (.cells (strs (List.replicate 64 ByteArray.empty)).toArray 9)) := KEY.out 64 (by omega) w
    generalize hX : (strs (List.replicate 64 ByteArray.empty)).toArray = X at k64
    have HX := hid hX
    clear hX
    go_enter Try.func26, Try.ntmps26
    go_wp2_with fail
    go_ret
    refine ⟨_, rfl, _, _, rfl, by go_grown, ?_, ?_, by rw [hr.out, ← HX.out]; exact FIN.out 64 (by omega) w⟩ <;> omega
  · by_cases h2 : (0 : Int) < room
    · obtain ⟨k, rfl⟩ := Int.eq_ofNat_of_zero_le (show 0 ≤ room by omega)
      have hr : Hid (roomOf k = k) := by show _ = _; unfold roomOf; omega
      have kk := KEY.out k (by omega) w
      generalize hX : (strs (List.replicate k ByteArray.empty)).toArray = X at kk
      have HX := hid hX
      clear hX
      go_enter Try.func26, Try.ntmps26
      go_wp2_with fail
      go_ret
      refine ⟨_, rfl, _, _, rfl, by go_grown, ?_, ?_, by rw [hr.out, ← HX.out]; exact FIN.out k (by omega) w⟩ <;> omega
    · have hr : Hid (roomOf room = 0) := by show _ = _; unfold roomOf; omega
      have kk : (Instr.makeSlice 34 (.int .i64 0) (.int .i64 0)).run Try.prog w = .ok (.slice (some ⟨w.heap.size, 0, none⟩) 0 0) (w.alloc (.cells (strs (List.replicate 0 ByteArray.empty)).toArray 9)) := KEY.out 0 (by omega) w
      generalize hX : (strs (List.replicate 0 ByteArray.empty)).toArray = X at kk
      have HX := hid hX
      clear hX
      go_enter Try.func26, Try.ntmps26
      go_wp2_with fail
      go_ret
      refine ⟨_, rfl, _, _, rfl, by go_grown, ?_, ?_, by rw [hr.out, ← HX.out]; exact FIN.out 0 (by omega) w⟩ <;> omega

set_option maxRecDepth 100000 in
theorem all_any (g gh n : Nat) (ls : List ByteArray) (l : Int) (w : World) (hr : RingIs w g gh n ls l) :
    Calls Try.prog 31 #[.pointer (some ⟨g, 0, none⟩)] w (Ret (NewVals w (strs ls))) := by
  obtain ⟨xs, first, size, ⟨h1, hg, hh, hf, hs, hn, _, _⟩, _, hls⟩ := hr
  have hl : (strs xs).length = xs.length := by simp [strs]
  rw [hl] at hf hs hn hg
  have c0 : w.cell? ⟨g, 0, none⟩ = some (.slice (some ⟨gh, 0, none⟩) xs.length xs.length) := hg.cell 0
  have c1 : w.cell? ⟨g, 1, none⟩ = some (.int .i64 first) := hg.cell 1
  have c2 : w.cell? ⟨g, 2, none⟩ = some (.int .i64 size) := hg.cell 2
  have hgl := hg.lt
  have hhl := hh.lt
  obtain ⟨m, hm⟩ : ∃ m, m = xs.length := ⟨_, rfl⟩
  rw [← hm] at c0 hf hs hn
  have hlen : ls.length = size := by rw [hls, Ring.lines_length]
  have HH := hid hh
  have HL := hid hls
  have HM := hid hm
  have HLen := hid hlen
  clear hg hh hls hm hlen hl
  go_enter Try.func31, Try.ntmps31
  go_wp2_with fail
  go_loopw [3, 11] (fun v i wr => ∃ k : Nat, k ≤ size ∧ i = .int .i64 k ∧ Below w.heap.size w wr ∧ wr.ownsRow w.heap.size 9 1 v k (strs (ls.take k))) (fun _ i _ => size - (intOf i).toNat)
  case atStart => exact ⟨0, Nat.zero_le _, rfl, Below.refl _ _, by simp [strs, World.ownsRow_nil]⟩
  case round =>
    rename_i v i wr
    obtain ⟨k, hk, rfl, hb, hown⟩ := hrel
    by_cases hlt : k < size
    · have d0 := (hb.cell (p := ⟨g, 0, none⟩) hgl).trans c0
      have d1 := (hb.cell (p := ⟨g, 1, none⟩) hgl).trans c1
      obtain ⟨q, hq⟩ : ∃ q, q = (first + k) % m := ⟨_, rfl⟩
      have hqm : q < m := by rw [hq]; exact Nat.mod_lt _ (by omega)
      obtain ⟨s, hs'⟩ : ∃ s, s = xs.getD q ByteArray.empty := ⟨_, rfl⟩
      have hq2 : q < xs.length := by have := HM.out; omega
      have dh : wr.cell? ⟨gh, q, none⟩ = some (.string s) := by
        rw [hb.cell (p := ⟨gh, q, none⟩) hhl, HH.out.cell, hs']
        simp [strs, List.getD, hq2]
      have HS : Hid (strs (ls.take (k + 1)) = strs (ls.take k) ++ [.string s]) := by
        show _ = _
        have hll := HLen.out
        rw [List.take_succ_eq_append_getElem (by omega)]
        have : ls[k]'(by omega) = s := by
          have h9 := Ring.lines_get ByteArray.empty xs first size k hlt
          rw [← HL.out, ← HM.out, ← hq, ← hs'] at h9
          simpa [List.getD, hll, hlt] using h9
        rw [this]
        simp [strs]
      have HB := hid hb
      have w1 : IntKind.i64.wrap ((first : Int) + (k : Int)) = (first : Int) + (k : Int) := IntWalk.i64_in _ (by omega)
      have w2 : IntKind.i64.wrap (q : Int) = (q : Int) := IntWalk.i64_in _ (by omega)
      have w3 : ((first : Int) + (k : Int)).tmod (m : Int) = (q : Int) := by rw [hq, Int.tmod_eq_emod_of_nonneg (by omega)]; simp
      have w4 : ¬ m = 0 := by omega
      have HQ := hid hq
      have HS2 := hid hs'
      have hb' := hb
      clear hb hq hs'
      go_wp2_with fail
      have hsz := hb'.size
      have hlk : (ls.take k).length = k := by rw [List.length_take, HLen.out]; omega
      have HLK := hid hlk
      clear hlk
      go_region_held3 (fun w' => w'.cell? ⟨g, 0, none⟩ = some (.slice (some ⟨gh, 0, none⟩) m m) ∧ w'.cell? ⟨g, 1, none⟩ = some (.int .i64 first) ∧ w'.cell? ⟨gh, q, none⟩ = some (.string s))
        (first
          | go_keep
          | exact ⟨(hbel.cell (p := ⟨g, 0, none⟩) hgl).trans d0, (hbel.cell (p := ⟨g, 1, none⟩) hgl).trans d1, (hbel.cell (p := ⟨gh, q, none⟩) hhl).trans dh⟩)
        ((refine step_push elem34 rfl _ _ rfl w.heap.size _ k _ [.string s] (by rfl) (w0 := wr.drew) hown rfl (by rfl) rfl (by simp [Value.oneCell']) (by unfold maxLen; omega) (by omega) hsz ?_; intro v1 w1 hown1 hbel))
      have HO1 := hid hown1
      have HB1 := hid (hb'.drew.trans hbel)
      clear hown1 hbel hown w2 w3 w4 d0 d1 dh hb'
      go_wp2_with fail
      go_roundw
      case rel => exact ⟨k + 1, by omega, by go_num, HB1.out, by rw [HS.out]; exact HO1.out⟩
      case measure => simp [intOf]; omega
    · obtain rfl : k = size := by omega
      have hll := HLen.out
      rw [← hll, List.take_length] at hown
      have HOwn := hid hown
      have HB := hid hb
      clear hown hb hll
      go_wp2_with fail
      go_ret
      exact ⟨_, rfl, HB.out, (Vals.of_owns HOwn.out)⟩
end C21
end Go.Proofs.Ytefaegoajjcfjaa
