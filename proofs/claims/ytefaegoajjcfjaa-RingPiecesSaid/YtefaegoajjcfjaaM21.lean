/- Walks of layer 21 (ring): the law on pieces; no condition. -/
import Derived.Test.YtefaegoajjcfjaaK21
namespace Go.Proofs.Ytefaegoajjcfjaa
open Go.RowKit Go.Peri
namespace C21

set_option maxRecDepth 100000 in
theorem slice_to {p : Nat → Prop} {w : World} {v : Value} {xs : List Value} (h : Vals p w v xs) (k : Nat) (hk : k ≤ xs.length) :
    ∃ v', (∀ w, (Instr.slice 34 v none (some (.int .i64 (k : Int))) none).run Try.prog w = .ok v' w) ∧ Vals p w v' (xs.take k) := by
  obtain ⟨a, cap, rfl, h2, h3, h4, h5⟩ := h
  have hu : Try.prog.underlying 34 = some (.slice (Try.prog.elem 34)) := by kernel_rfl
  have hs : ∀ w, (sizeOf (Try.prog.elem 34)).run Try.prog w = .ok 1 w := fun w => by kernel_rfl
  have hl : (xs.take k).length = k := by rw [List.length_take]; omega
  refine ⟨.slice a k cap, fun w => ?_, ?_⟩
  · rw [run_slice_h w 34 a xs.length cap hu .i64 (k : Int) (by omega) (by omega), hs]
    simp [Result.andThen, sliced]
    intro hc
    cases a with
    | none => rfl
    | some ad => simp [Addr.add]
  · refine ⟨a, cap, by rw [hl], by rw [hl]; omega, h3, h4, ?_⟩
    rcases h5 with h5 | ⟨b, off, g1, g2, g3⟩
    · left; rw [h5]; simp
    · refine .inr ⟨b, off, g1, g2, fun i hi => ?_⟩
      rw [hl] at hi
      rw [g3 i (by omega)]
      simp [List.getD, hi]

theorem one_vals (w : World) (s : ByteArray) : Vals (fun b => b = w.heap.size) (w.alloc (.cells #[.string s] 9)) (.slice (some ⟨w.heap.size, 0, none⟩) 1 1) (strs [s]) := by
  have := (Blk.new w (strs [s]).toArray 9).vals (xs := strs [s]) (by simp [strs, maxLen])
  exact this

set_option maxRecDepth 100000 in
set_option maxHeartbeats 2000000 in
theorem pieces_walk (room at_ : Int) (v : Value) (ss : List ByteArray) (w : World) (hv : Vals (· < w.heap.size) w v (strs ss)) :
    Calls Try.prog 8 #[.int .i64 room, v, .int .i64 at_] w fun e w' => e = .returned (.bool true) ∧ Below w.heap.size w w' := by
  have HV := hid hv
  obtain ⟨a, cap, rfl, h1, h2, -, hcell⟩ := hv
  have hsl : (strs ss).length = ss.length := by simp [strs]
  rw [hsl] at h1 HV hcell ⊢
  have HC := hid hcell
  unfold maxLen at h2
  have HSL := hid hsl
  clear hsl hcell
  by_cases hlen : 300 < ss.length
  · go_enter Try.func8, Try.ntmps8
    go_wp2_with fail
    refine (known_any w).mono ?_
    rintro e w1 ⟨rfl, hb⟩
    go_wp2_with fail
    go_ret
    exact ⟨rfl, hb⟩
  by_cases hat0 : at_ < 0
  · go_enter Try.func8, Try.ntmps8
    go_wp2_with fail
    refine (known_any w).mono ?_
    rintro e w1 ⟨rfl, hb⟩
    go_wp2_with fail
    go_ret
    exact ⟨rfl, hb⟩
  by_cases hat1 : (ss.length : Int) < at_
  · go_enter Try.func8, Try.ntmps8
    go_wp2_with fail
    refine (known_any w).mono ?_
    rintro e w1 ⟨rfl, hb⟩
    go_wp2_with fail
    go_ret
    exact ⟨rfl, hb⟩
  obtain ⟨k0, rfl⟩ := Int.eq_ofNat_of_zero_le (show 0 ≤ at_ by omega)
  have hk0 : k0 ≤ ss.length := by omega
  clear hat0 hat1
  obtain ⟨v4, hrun, hv4⟩ := slice_to HV.out k0 (by rw [HSL.out]; exact hk0)
  have HV4 : Hid (Vals (· < w.heap.size) w v4 (strs (ss.take k0))) := by rw [show strs (ss.take k0) = (strs ss).take k0 by simp [strs]]; exact hv4
  clear hv4
  go_enter Try.func8, Try.ntmps8
  go_wp2_with fail
  refine (new_any room w).mono ?_
  rintro e w1 ⟨va, rfl, ga, gha, rfl, hb1, hga, hgha, hr1⟩
  have hw1 := hb1.size
  obtain ⟨n, hn⟩ : ∃ n, n = roomOf room := ⟨_, rfl⟩
  rw [← hn] at hr1
  have HR1 := hid hr1
  have HB1 := hid hb1
  have HN := hid hn
  have hla := hr1.lt
  clear hr1 hb1 hn
  go_wp2_with fail
  refine (new_any room w1).mono ?_
  rintro e w2 ⟨vb, rfl, gb, ghb, rfl, hb2, hgb, hghb, hr2⟩
  have hw2 := hb2.size
  rw [← HN.out] at hr2
  have HA2 := hid (HR1.out.below hb2)
  have HR2 := hid hr2
  have HB2 := hid (HB1.out.trans (hb2.mono hw1))
  clear hr2 hb2
  go_wp2_with fail
  refine (puts_any ga gha n _ ss [] 0 _ HA2.out (HV.out.below HB2.out (fun _ h => h)) ?_).mono ?_
  · intro b hb; exact ⟨by omega, by simp; omega⟩
  rintro e w3 ⟨rfl, ho3, hr3⟩
  have hw3 := ho3.size
  have HA3 := hid hr3
  have HR3 := hid (HR2.out.only ho3 (by simp; omega) (by simp; omega))
  have HB3 := hid (HB2.out.trans (ho3.below (B := w.heap.size) (by omega) (by simp; omega)))
  clear hr3 ho3
  go_wp2_with fail
  refine (puts_any gb ghb n _ (ss.take k0) [] 0 _ HR3.out (HV4.out.below HB3.out (fun _ h => h)) ?_).mono ?_
  · intro b hb; exact ⟨by omega, by simp; omega⟩
  rintro e w4 ⟨rfl, ho4, hr4⟩
  have hw4 := ho4.size
  have HA4 := hid (HA3.out.only ho4 (by simp; omega) (by simp; omega))
  have HR4 := hid hr4
  have HB4 := hid (HB3.out.trans (ho4.below (B := w.heap.size) (by omega) (by simp; omega)))
  clear hr4 ho4
  go_wp2_with fail
  go_loopw [9] (fun i wr => ∃ k : Nat, k0 ≤ k ∧ k ≤ ss.length ∧ i = .int .i64 k ∧ Below w.heap.size w wr ∧ w2.heap.size ≤ wr.heap.size ∧ RingIs wr ga gha n (Ring.puts n ([], 0) ss).1 (Ring.puts n ([], 0) ss).2 ∧ RingIs wr gb ghb n (Ring.puts n ([], 0) (ss.take k)).1 (Ring.puts n ([], 0) (ss.take k)).2) (fun i _ => ss.length - (intOf i).toNat)
  case atStart => exact ⟨k0, by omega, hk0, rfl, HB4.out, by omega, HA4.out, HR4.out⟩
  case round =>
    obtain ⟨k, hkk, hk, rfl, hb, hsz, hra, hrb⟩ := hrel
    have HB5 := hid hb
    have HA5 := hid hra
    have HR5 := hid hrb
    clear hb hra hrb hrun
    by_cases hlt : k < ss.length
    · obtain ⟨b, off, rfl, hbw, hc⟩ := HC.out.resolve_left (by intro e; have := HSL.out; rw [e] at this; simp at this; omega)
      have c0 : wr.cell? ⟨b, off + k, none⟩ = some (.string (ss.getD k ByteArray.empty)) := by
        rw [HB5.out.cell (p := ⟨b, off + k, none⟩) hbw, hc k hlt]
        simp [strs, List.getD, hlt]
      have HS : Hid (Ring.puts n ([], 0) (ss.take (k + 1)) = Ring.puts n (Ring.puts n ([], 0) (ss.take k)) [ss.getD k ByteArray.empty]) := by
        show _ = _
        rw [List.take_succ_eq_append_getElem hlt, Ring.puts_append]
        simp [List.getD, hlt]
      generalize ss.getD k ByteArray.empty = s at c0 HS
      clear hc
      go_wp2_with fail
      refine (puts_any gb ghb n _ [s] _ _ _ (HR5.out.below (by go_grown)) (one_vals wr s) ?_).mono ?_
      · rintro b rfl; have := HR5.out.lt; exact ⟨by simp, by simp; omega⟩
      rintro e w6 ⟨rfl, ho6, hr6⟩
      have hw6 : wr.heap.size ≤ w6.heap.size := by have := ho6.size; simp at this; omega
      have HA6 := hid ((HA5.out.below (w' := wr.alloc (.cells #[.string s] 9)) (by go_grown)).only ho6 (by simp; omega) (by simp; omega))
      have HR6 := hid hr6
      have hwr : w.heap.size ≤ wr.heap.size := by omega
      have HB6 : Hid (Below w.heap.size w w6) := HB5.out.trans (Below.trans (b := wr.alloc (.cells #[.string s] 9)) (by go_grown) (ho6.below (B := w.heap.size) (by simp; omega) (by simp; omega)))
      clear hr6 ho6
      go_wp2_with fail
      go_roundw
      case rel => exact ⟨k + 1, by omega, by omega, by go_num, HB6.out, by omega, HA6.out, by rw [HS.out]; exact HR6.out⟩
      case measure => simp [intOf]; omega
    · obtain rfl : k = ss.length := by omega
      have hrb := HR5.out
      rw [List.take_length] at hrb
      have HR6 := hid hrb
      clear hrb
      obtain ⟨fl, hfl⟩ : ∃ fl, fl = Ring.puts n ([], 0) ss := ⟨_, rfl⟩
      rw [← hfl] at HA5 HR6
      obtain ⟨ls, lo⟩ := fl
      have HF := hid hfl
      clear hfl HR5
      go_wp2_with fail
      refine (all_any ga gha n _ _ _ HA5.out).mono ?_
      rintro e w7 ⟨v7, rfl, hb7, hv7⟩
      have hw7 := hb7.size
      have HA7 := hid (HA5.out.below hb7)
      have HR7 := hid (HR6.out.below hb7)
      have HB7 := hid (HB5.out.trans (hb7.mono (by omega)))
      have HV7 := hid hv7
      clear hb7 hv7
      go_wp2_with fail
      refine (all_any gb ghb n _ _ _ HR7.out).mono ?_
      rintro e w8 ⟨v8, rfl, hb8, hv8⟩
      have hw8 := hb8.size
      have HA8 := hid (HA7.out.below hb8)
      have HR8 := hid (HR7.out.below hb8)
      have HB8 := hid (HB7.out.trans (hb8.mono (by omega)))
      have HV8 := hid hv8
      have HV78 := hid (HV7.out.below hb8 (fun _ h => h.2))
      clear hb8 hv8
      go_wp2_with fail
      have htx := texts_any _ _ ls ls w8 HV78.out HV8.out (fun b hb => Nat.lt_of_lt_of_le hb.2 hw8) (fun b hb => hb.2)
      rw [show decide (ls = ls) = true from by simp] at htx
      refine htx.mono ?_
      clear htx
      rintro e w9 ⟨rfl, hb9⟩
      have hw9 := hb9.size
      have HA9 := hid (HA8.out.below hb9)
      have HR9 := hid (HR8.out.below hb9)
      have HB9 := hid (HB8.out.trans (hb9.mono (by omega)))
      clear hb9
      go_wp2_with fail
      refine (lost_any ga gha n _ _ _ HA9.out).mono ?_
      rintro e w' ⟨rfl, rfl⟩
      go_wp2_with fail
      refine (lost_any gb ghb n _ _ _ HR9.out).mono ?_
      rintro e w' ⟨rfl, rfl⟩
      go_wp2_with fail
      refine (len_any ga gha n _ _ _ HA9.out).mono ?_
      rintro e w' ⟨rfl, rfl⟩
      go_wp2_with fail
      refine (len_any gb ghb n _ _ _ HR9.out).mono ?_
      rintro e w' ⟨rfl, rfl⟩
      go_wp2_with fail
      refine (known_any _).mono ?_
      rintro e w10 ⟨rfl, hb10⟩
      have HB10 := hid (HB9.out.trans (hb10.mono (by omega)))
      clear hb10
      go_wp2_with fail
      go_ret
      exact ⟨rfl, HB10.out⟩
end C21
end Go.Proofs.Ytefaegoajjcfjaa
