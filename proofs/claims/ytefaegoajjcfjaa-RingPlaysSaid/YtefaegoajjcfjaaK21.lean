/- Walks of layer 21 (ring): the fixed calls, and the laws; no condition. -/
import Derived.Test.YtefaegoajjcfjaaF21
namespace Go.Proofs.Ytefaegoajjcfjaa
open Go.RowKit Go.Peri
namespace C21

theorem lit_vals (w : World) (ls : List ByteArray) (h : ls.length ≤ maxLen) : Vals (fun b => b = w.heap.size) (w.alloc (.cells (strs ls).toArray 9)) (.slice (some ⟨w.heap.size, 0, none⟩) ls.length ls.length) (strs ls) := by
  have := (Blk.new w (strs ls).toArray 9).vals (by simpa [strs] using h)
  simpa [strs] using this

set_option maxRecDepth 100000 in
set_option maxHeartbeats 1000000 in
theorem known_any (w : World) : Calls Try.prog 25 #[] w fun e w' => e = .returned (.bool true) ∧ Below w.heap.size w w' := by
  go_enter Try.func25, Try.ntmps25
  go_wp2_with fail
  refine (new_any 2 w).mono ?_
  rintro e w1 ⟨v, rfl, g, gh, rfl, hb1, hg, hh, hr1⟩
  have HR1 := hid hr1
  have hw1 := hb1.size
  have HB1 := hid hb1
  clear hr1 hb1
  go_wp2_with (first
    | (go_at_call 32; refine (len_any g gh 2 [] 0 _ HR1.out).mono ?_; rintro e w' ⟨rfl, rfl⟩))
  have hst : Hid (Ring.puts 2 (([] : List ByteArray), (0 : Int)) [⟨#[97]⟩, ⟨#[98]⟩, ⟨#[99]⟩] = ([⟨#[98]⟩, ⟨#[99]⟩], 1)) := rfl
  have hr2 : RingIs (w1.alloc (.cells (strs [⟨#[97]⟩, ⟨#[98]⟩, ⟨#[99]⟩]).toArray 9)) g gh 2 [] 0 := HR1.out.below (by go_grown)
  refine (puts_any g gh 2 _ [⟨#[97]⟩, ⟨#[98]⟩, ⟨#[99]⟩] [] 0 _ hr2 (lit_vals w1 _ (by decide)) ?_).mono ?_
  · rintro b rfl
    have := HR1.out.lt
    exact ⟨by simp, by simp; omega⟩
  rintro e w2 ⟨rfl, ho2, hr2'⟩
  rw [hst.out] at hr2'
  have HR2 := hid hr2'
  have hw2 : w1.heap.size ≤ w2.heap.size := by have := ho2.size; simp at this; omega
  have HB2 : Hid (Below w.heap.size w w2) := HB1.out.trans (Below.trans (by go_grown) (ho2.below (B := w.heap.size) (by have := HB1.out.size; simp; omega) (by simp; omega)))
  clear hr2 hr2' ho2
  go_wp2_with (first
    | (go_at_call 28; refine (puts_nil _ _).mono ?_; rintro e w' ⟨rfl, rfl⟩))
  have hr3 : RingIs (w2.alloc (.cells #[.string ⟨#[120]⟩] 9)) g gh 2 [⟨#[98]⟩, ⟨#[99]⟩] 1 := HR2.out.below (by go_grown)
  refine (all_any g gh 2 _ _ _ hr3).mono ?_
  rintro e w3 ⟨v3, rfl, hb3, hv3⟩
  have HR3 := hid (hr3.below hb3)
  have hw3 : w2.heap.size ≤ w3.heap.size := by have := hb3.size; simp at this; omega
  have HB3 : Hid (Below w.heap.size w w3) := HB2.out.trans (Below.trans (by have := HB2.out.size; go_grown) (hb3.mono (by have := HB2.out.size; simp; omega)))
  have HV3 := hid hv3
  clear hr3 hb3 hv3
  go_wp2_with fail
  refine (texts_any _ _ [⟨#[98]⟩, ⟨#[99]⟩] [⟨#[98]⟩, ⟨#[99]⟩] _ ((HV3.out).below (B := w3.heap.size) (by go_grown) (fun b hb => hb.2)) (lit_vals w3 _ (by decide)) ?_ ?_).mono ?_
  · intro b hb; have := hb.2; simp; omega
  · rintro b rfl; simp
  rintro e w4 ⟨rfl, hb4⟩
  have HR4 := hid ((HR3.out.below (by go_grown)).below hb4)
  have hw4 : w3.heap.size ≤ w4.heap.size := by have := hb4.size; simp at this; omega
  have HB4 : Hid (Below w.heap.size w w4) := HB3.out.trans (Below.trans (by have := HB3.out.size; go_grown) (hb4.mono (by have := HB3.out.size; simp; omega)))
  clear hb4
  have tt : decide (([⟨#[98]⟩, ⟨#[99]⟩] : List ByteArray) = [⟨#[98]⟩, ⟨#[99]⟩]) = true := by simp
  go_wp2_with fail
  refine (len_any g gh 2 _ _ _ HR4.out).mono ?_
  rintro e w' ⟨rfl, rfl⟩
  go_wp2_with fail
  refine (lost_any g gh 2 _ _ _ HR4.out).mono ?_
  rintro e w' ⟨rfl, rfl⟩
  go_wp2_with fail
  refine (all_nil _).mono ?_
  rintro e w' ⟨rfl, rfl⟩
  go_wp2_with fail
  refine (len_nil _).mono ?_
  rintro e w' ⟨rfl, rfl⟩
  go_wp2_with fail
  refine (lost_nil _).mono ?_
  rintro e w' ⟨rfl, rfl⟩
  go_wp2_with fail
  go_ret
  exact ⟨rfl, HB4.out⟩

/-- The room of a ring, as Go's min and max give it. -/
theorem room_cases (room : Int) : (64 < room ∧ roomOf room = 64) ∨ (¬ 64 < room ∧ 0 < room ∧ (roomOf room : Int) = room) ∨ (¬ 64 < room ∧ ¬ 0 < room ∧ roomOf room = 0) := by
  unfold roomOf; omega
set_option maxRecDepth 100000 in
theorem slice_from {p : Nat → Prop} {w : World} {v : Value} {xs : List Value} (h : Vals p w v xs) (k : Nat) (hk : k ≤ xs.length) :
    ∃ v', (∀ w, (Instr.slice 34 v (some (.int .i64 (k : Int))) none none).run Try.prog w = .ok v' w) ∧ Vals p w v' (xs.drop k) := by
  obtain ⟨a, cap, rfl, h2, h3, h4, h5⟩ := h
  have hu : Try.prog.underlying 34 = some (.slice (Try.prog.elem 34)) := by kernel_rfl
  have hs : ∀ w, (sizeOf (Try.prog.elem 34)).run Try.prog w = .ok 1 w := fun w => by kernel_rfl
  refine ⟨sliced a k xs.length cap 1, fun w => ?_, ?_⟩
  · rw [run_slice_l w 34 a xs.length cap hu .i64 (k : Int) (by omega) (by omega), hs]; rfl
  · unfold sliced
    have hl : (xs.drop k).length = xs.length - k := List.length_drop
    refine ⟨_, cap - k, by rw [hl], by rw [hl]; omega, by omega, ?_, ?_⟩
    · split
      · intro e; have := h4 e; omega
      · intro e; rw [Option.map_eq_none_iff] at e; have := h4 e; omega
    · by_cases hx : xs.length = k
      · left; exact List.length_eq_zero_iff.1 (by rw [hl]; omega)
      · rcases h5 with h5 | ⟨b, off, g1, g2, g3⟩
        · rw [h5] at hx hk; simp at hx hk; omega
        · rw [g1, if_neg (by omega)]
          refine .inr ⟨b, off + k, ?_, g2, fun i hi => ?_⟩
          · simp only [Option.map_some, Nat.mul_one]
            congr 1
            unfold Addr.add; split
            · rename_i hz; rw [hz]; rfl
            · rfl
          · rw [hl] at hi
            rw [show off + k + i = off + (k + i) by omega, g3 (k + i) (by omega)]
            simp [List.getD]

set_option maxRecDepth 100000 in
set_option maxHeartbeats 2000000 in
theorem keeps_walk (room : Int) (v : Value) (ss : List ByteArray) (w : World) (hv : Vals (· < w.heap.size) w v (strs ss)) :
    Calls Try.prog 7 #[.int .i64 room, v] w fun e w' => e = .returned (.bool true) ∧ Below w.heap.size w w' := by
  have HV := hid hv
  obtain ⟨a, cap, rfl, h1, h2, -, -⟩ := hv
  have hsl : (strs ss).length = ss.length := by simp [strs]
  rw [hsl] at h1 HV ⊢
  unfold maxLen at h2
  have HSL := hid hsl
  clear hsl
  by_cases hlen : 300 < ss.length
  · go_enter Try.func7, Try.ntmps7
    go_wp2_with fail
    refine (known_any w).mono ?_
    rintro e w1 ⟨rfl, hb⟩
    go_wp2_with fail
    go_ret
    exact ⟨rfl, hb⟩
  · go_enter Try.func7, Try.ntmps7
    go_wp2_with fail
    refine (new_any room w).mono ?_
    rintro e w1 ⟨v, rfl, g, gh, rfl, hb1, hg, hh, hr1⟩
    have hw1 := hb1.size
    obtain ⟨n, hn⟩ : ∃ n, n = roomOf room := ⟨_, rfl⟩
    rw [← hn] at hr1
    have HR1 := hid hr1
    have HB1 := hid hb1
    have HN := hid hn
    clear hr1 hb1 hn
    go_wp2_with fail
    refine (puts_any g gh n _ ss [] 0 _ HR1.out (HV.out.below HB1.out (fun _ h => h)) ?_).mono ?_
    · intro b hb; exact ⟨by omega, by simp; omega⟩
    rintro e w2 ⟨rfl, ho2, hr2⟩
    rw [Ring.puts_last n ss (by omega)] at hr2
    have hw2 := ho2.size
    have HR2 := hid hr2
    have HB2 := hid (HB1.out.trans (ho2.below (B := w.heap.size) hw1 (by simp; omega)))
    clear hr2 ho2
    go_wp2_with fail
    refine (all_any g gh n _ _ _ HR2.out).mono ?_
    rintro e w3 ⟨v3, rfl, hb3, hv3⟩
    have hw3 := hb3.size
    have HR3 := hid (HR2.out.below hb3)
    have HB3 := hid (HB2.out.trans (hb3.mono (by omega)))
    have HV3 := hid hv3
    clear hb3 hv3
    obtain ⟨m, hm⟩ : ∃ m, m = ss.length - n := ⟨_, rfl⟩
    rw [← hm] at HR3 HV3
    obtain ⟨q, hq⟩ : ∃ q, q = (ss.drop m).length := ⟨_, rfl⟩
    have hqm : q = ss.length - m := by rw [hq, List.length_drop]
    have hq1 : q ≤ n := by omega
    have hq2 : q ≤ ss.length := by omega
    have hml : m ≤ ss.length := by omega
    have hsub : (ss.length : Int) - (q : Int) = (m : Int) := by omega
    have hne : ((q : Int) + (m : Int) != (ss.length : Int)) = false := by simp; omega
    obtain ⟨v4, hrun, hv4⟩ := slice_from HV.out m (by rw [HSL.out]; exact hml)
    have HV4 : Hid (Vals (· < w.heap.size) w v4 (strs (ss.drop m))) := by rw [show strs (ss.drop m) = (strs ss).drop m by simp [strs]]; exact hv4
    obtain ⟨a3, c3, rfl, -, -, -, -⟩ := HV3.out
    rw [show (strs (ss.drop m)).length = q by simp [strs, hq]] at HV3 ⊢
    have hlq : ∀ w, RingIs w g gh n (ss.drop m) m → Calls Try.prog 32 #[.pointer (some ⟨g, 0, none⟩)] w fun e w' => e = .returned (.int .i64 q) ∧ w = w' := by
      intro w hr; rw [hq]; exact len_any g gh n _ _ w hr
    have HLQ := hid hlq
    have HQ := hid hq
    have HM := hid hm
    clear hq hm hqm hv4 hlq
    have hqn : q ≤ roomOf room := by rw [← HN.out]; exact hq1
    have hq3 : Hid (q ≤ roomOf room) := hqn
    clear hqn
    rcases room_cases room with ⟨r1, r2⟩ | ⟨r1, r2, r3⟩ | ⟨r1, r2, r3⟩
    · have hqn : q ≤ 64 := by have := hq3.out; omega
      go_wp2_with fail
      refine (lost_any g gh n _ _ _ HR3.out).mono ?_
      rintro e w' ⟨rfl, rfl⟩
      go_wp2_with fail
      refine (HLQ.out _ HR3.out).mono ?_
      rintro e w' ⟨rfl, rfl⟩
      go_wp2_with fail
      have hx4 := HV4.out.below HB3.out (fun _ h => h)
      have hlt4 : ∀ b, b < w.heap.size → b < w3.heap.size := fun b hb => by omega
      have htx := texts_any _ _ (ss.drop m) (ss.drop m) w3 HV3.out hx4 (fun b hb => hb.2) hlt4
      clear hx4 hlt4
      rw [show decide (ss.drop m = ss.drop m) = true from by simp] at htx
      refine htx.mono ?_
      clear htx
      rintro e w5 ⟨rfl, hb5⟩
      have HB5 := hid (HB3.out.trans (hb5.mono (by omega)))
      clear hb5
      go_wp2_with fail
      refine (known_any _).mono ?_
      rintro e w6 ⟨rfl, hb6⟩
      have HB6 := hid (HB5.out.trans (hb6.mono (HB5.out.size)))
      clear hb6
      go_wp2_with fail
      go_ret
      exact ⟨rfl, HB6.out⟩
    · have hqn : (q : Int) ≤ room := by have := hq3.out; omega
      go_wp2_with fail
      refine (lost_any g gh n _ _ _ HR3.out).mono ?_
      rintro e w' ⟨rfl, rfl⟩
      go_wp2_with fail
      refine (HLQ.out _ HR3.out).mono ?_
      rintro e w' ⟨rfl, rfl⟩
      go_wp2_with fail
      have hx4 := HV4.out.below HB3.out (fun _ h => h)
      have hlt4 : ∀ b, b < w.heap.size → b < w3.heap.size := fun b hb => by omega
      have htx := texts_any _ _ (ss.drop m) (ss.drop m) w3 HV3.out hx4 (fun b hb => hb.2) hlt4
      clear hx4 hlt4
      rw [show decide (ss.drop m = ss.drop m) = true from by simp] at htx
      refine htx.mono ?_
      clear htx
      rintro e w5 ⟨rfl, hb5⟩
      have HB5 := hid (HB3.out.trans (hb5.mono (by omega)))
      clear hb5
      go_wp2_with fail
      refine (known_any _).mono ?_
      rintro e w6 ⟨rfl, hb6⟩
      have HB6 := hid (HB5.out.trans (hb6.mono (HB5.out.size)))
      clear hb6
      go_wp2_with fail
      go_ret
      exact ⟨rfl, HB6.out⟩
    · obtain rfl : q = 0 := by have := hq3.out; omega
      obtain rfl : m = ss.length := by omega
      clear hsub hne
      go_wp2_with fail
      refine (lost_any g gh n _ _ _ HR3.out).mono ?_
      rintro e w' ⟨rfl, rfl⟩
      go_wp2_with fail
      refine (HLQ.out _ HR3.out).mono ?_
      rintro e w' ⟨rfl, rfl⟩
      go_wp2_with fail
      have hx4 := HV4.out.below HB3.out (fun _ h => h)
      have hlt4 : ∀ b, b < w.heap.size → b < w3.heap.size := fun b hb => by omega
      have htx := texts_any _ _ (ss.drop ss.length) (ss.drop ss.length) w3 HV3.out hx4 (fun b hb => hb.2) hlt4
      clear hx4 hlt4
      rw [show decide (ss.drop ss.length = ss.drop ss.length) = true from by simp] at htx
      refine htx.mono ?_
      clear htx
      rintro e w5 ⟨rfl, hb5⟩
      have HB5 := hid (HB3.out.trans (hb5.mono (by omega)))
      clear hb5
      go_wp2_with fail
      refine (known_any _).mono ?_
      rintro e w6 ⟨rfl, hb6⟩
      have HB6 := hid (HB5.out.trans (hb6.mono (HB5.out.size)))
      clear hb6
      go_wp2_with fail
      go_ret
      exact ⟨rfl, HB6.out⟩
end C21
end Go.Proofs.Ytefaegoajjcfjaa
