/- Walks of layer 25 (buffer): put and taken, whatever there is; what must come of fixed calls; no condition. -/
import Derived.Test.YtefaegoajjcfjaaG25
namespace Go.Peri
open Go.RowKit
theorem rows_of_blk {α : Type} {enc : α → List Value} {k : Nat} (hk : ∀ x, (enc x).length = k) {w : World} {g t : Nat} {l : List α} (h : Blk w g (l.flatMap enc).toArray t) (hm : l.length ≤ maxLen) : RowsOf (· = g) enc k w (.slice (some ⟨g, 0, none⟩) l.length l.length) l := by
  refine ⟨_, _, rfl, Nat.le_refl _, hm, by simp, .inr ⟨g, 0, rfl, rfl, fun i hi j u hu => ?_⟩⟩
  have hj : j < k := by have := (List.getElem?_eq_some_iff.1 hu).1; rw [hk] at this; exact this
  rw [h.cell, Nat.zero_add, List.getElem?_toArray, flat_get hk l i hi j hj]
  exact hu
end Go.Peri
namespace Go.Proofs.Ytefaegoajjcfjaa
open Go.RowKit Go.Peri
namespace C25

theorem BufIs.own_ge {w : World} {g : Nat} {h : Option Nat} {room : Nat} {l : List Sp} {lost : Int} (hb : BufIs w g h room l lost) : ∀ k, k ∈ own g h → g ≤ k := by
  obtain ⟨v, h1, h2, h3, _⟩ := hb
  intro k hk
  simp only [own, List.mem_cons] at hk
  rcases hk with rfl | hk
  · exact Nat.le_refl _
  · rw [← h1] at hk
    have := (h3.lt k (by simpa using hk)).1
    omega
theorem BufIs.lt {w : World} {g : Nat} {h : Option Nat} {room : Nat} {l : List Sp} {lost : Int} (hb : BufIs w g h room l lost) : ∀ k, k ∈ own g h → k < w.heap.size := by
  obtain ⟨v, h1, h2, h3, _⟩ := hb
  intro k hk
  simp only [own, List.mem_cons] at hk
  rcases hk with rfl | hk
  · exact h2.lt
  · rw [← h1] at hk
    exact (h3.lt k (by simpa using hk)).2
theorem BufIs.below {w w' : World} {g : Nat} {h : Option Nat} {room : Nat} {l : List Sp} {lost : Int} (hb : BufIs w g h room l lost) (ho : Only (own g h) w w') : Below g w w' :=
  ho.below (Nat.le_of_lt (hb.lt g (by simp [own]))) hb.own_ge

def putR (room : Nat) (p : List Sp × Int) (s : Sp) : List Sp × Int := if p.1.length < room then (p.1 ++ [s], p.2) else (p.1, min (p.2 + 1) 1099511627776)
theorem put_any (g : Nat) (h : Option Nat) (room : Nat) (l : List Sp) (lost : Int) (s : Sp) (w : World) (hb : BufIs w g h room l lost) :
    Calls Try.prog 53 #[.pointer (some ⟨g, 0, none⟩), .agg #[.int .u64 s.hi, .int .u64 s.lo, .int .u64 s.id, .int .u64 s.up, .string s.name, .int .i64 s.status, .int .i64 s.seq, .int .i64 s.kids, .bool s.shadow, .int .i64 s.start, .int .i64 s.stop]] w fun e w' =>
      e = .returned (.bool (decide (l.length < room))) ∧ Only (own g h) w w' ∧ ∃ h', Moved w h h' ∧ BufIs w' g h' room (putR room (l, lost) s).1 (putR room (l, lost) s).2 := by
  have hle : l.length ≤ room := by obtain ⟨_, _, _, _, h, _⟩ := hb; exact h
  unfold putR
  by_cases hf : l.length < room
  · refine (put_more g h room l lost s w hb hf).mono ?_
    rintro e w' ⟨rfl, ho, h', hm, hb'⟩
    refine ⟨by simp [hf], ho, h', hm, ?_⟩
    simp only [if_pos hf]
    exact hb'
  · refine (put_full g h room l lost s w hb (by omega)).mono ?_
    rintro e w' ⟨rfl, ho, hb'⟩
    refine ⟨by simp [hf], ho, h, .inl rfl, ?_⟩
    simp only [if_neg hf]
    exact hb'
theorem take_any (g : Nat) (h : Option Nat) (room : Nat) (l : List Sp) (lost : Int) (n : Int) (w : World) (hb : BufIs w g h room l lost) :
    Calls Try.prog 51 #[.pointer (some ⟨g, 0, none⟩), .int .i64 n] w (TakeQ g h room l lost (takeN n l) w) := by
  by_cases h0 : n ≤ 0 ∨ l.length = 0
  · have e : takeN n l = 0 := by unfold takeN; omega
    rw [e]
    exact take_zero g h room l lost n w hb h0
  · obtain ⟨a, cap, e1, h2, h3, h4, h5, h6, h7⟩ := hb.form
    have hsome : ∃ hb0, a = some ⟨hb0, 0, none⟩ := by
      rcases h3.2 with ⟨_, h9⟩ | ⟨gg, cp, cur, e9, _⟩
      · omega
      · cases e9; exact ⟨gg, rfl⟩
    obtain ⟨hb0, rfl⟩ := hsome
    have e2 : h = some hb0 := e1.symm
    subst e2
    refine take_pos g hb0 room l lost n (takeN n l) cap w h2 h3 h4 h5 h6 h7 ?_ ?_ ?_
    · unfold takeN; omega
    · unfold takeN; omega
    · unfold takeN; omega

theorem same_list (u v : Value) (l : List Sp) (W : World) (h : ∃ p : Nat → Prop, (∀ b, p b → b < W.heap.size) ∧ RowsOf p Sp.enc 11 W u l) (h2 : ∃ p : Nat → Prop, (∀ b, p b → b < W.heap.size) ∧ RowsOf p Sp.enc 11 W v l) (hl : l.length ≤ 1000000) :
    Calls Try.prog 50 #[u, v] W fun e w' => e = .returned (.bool true) ∧ Below W.heap.size W w' := by
  obtain ⟨p, hp, hr⟩ := h
  obtain ⟨q, hq, hr2⟩ := h2
  exact same_any u v l l true W hr hp hr2 hq (by omega) (by omega) (decide_eq_true rfl)

def t1 : Sp := ⟨0, 0, 1, 0, ⟨#[]⟩, 0, 0, 0, false, 0, 0⟩
def t2 : Sp := ⟨0, 0, 2, 0, ⟨#[]⟩, 0, 0, 0, false, 0, 0⟩

set_option maxRecDepth 100000 in
set_option maxHeartbeats 4000000 in
theorem known_any (W : World) : Calls Try.prog 46 #[] W fun e w' => e = .returned (.bool true) ∧ Below W.heap.size W w' := by
  go_enter Try.func46, Try.ntmps46
  go_wp2_with fail
  refine (new_any 1 _).mono ?_
  rintro e w1 ⟨rfl, hb1, hs1, hB1⟩
  have HB1 := hid hb1
  have HBuf1 : Hid (BufIs w1 W.heap.size none 1 [] 0) := hB1
  clear hb1 hB1
  go_wp2_with fail
  refine (put_any W.heap.size none 1 [] 0 t1 _ HBuf1.out).mono ?_
  rintro e w2 ⟨rfl, ho2, h2, hm2, hB2⟩
  have HB2 := hid (HB1.out.trans (HBuf1.out.below ho2))
  have HBuf2 : Hid (BufIs w2 W.heap.size h2 1 [t1] 0) := hB2
  clear ho2 hm2 hB2
  go_wp2_with fail
  refine (put_any W.heap.size h2 1 [t1] 0 t2 _ HBuf2.out).mono ?_
  rintro e w3 ⟨rfl, ho3, h3, hm3, hB3⟩
  have HB3 := hid (HB2.out.trans (HBuf2.out.below ho3))
  have HBuf3 : Hid (BufIs w3 W.heap.size h3 1 [t1] 1) := hB3
  clear ho3 hm3 hB3
  go_wp2_with fail
  refine (len_any W.heap.size h3 1 [t1] 1 _ HBuf3.out).mono ?_
  rintro e w' ⟨rfl, rfl⟩
  go_wp2_with fail
  refine (lost_any W.heap.size h3 1 [t1] 1 _ HBuf3.out).mono ?_
  rintro e w' ⟨rfl, rfl⟩
  go_wp2_with fail
  refine (all_any W.heap.size h3 1 [t1] 1 _ HBuf3.out).mono ?_
  rintro e w4 ⟨a4, cap4, rfl, hb4, HL4⟩
  have HB4 := hid (HB3.out.trans (hb4.mono HB3.out.size))
  have HBuf4 := hid (HBuf3.out.later hb4)
  clear hb4
  go_wp2_with fail
  refine (same_list _ _ [t1] _ ⟨_, fun b hb => (by have := hb.2; simp; omega), HL4.out.below (B := w4.heap.size) ((Below.refl _ w4).alloc (Nat.le_refl _) _) (fun b h => h.2)⟩ ⟨_, fun b hb => (by rw [hb]; simp), rows_of_blk Sp.enc_length (l := [t1]) (Blk.new w4 _ 79) (by decide)⟩ (by simp)).mono ?_
  rintro e w5 ⟨rfl, hb5⟩
  have HX4 : Hid (Below w4.heap.size w4 w5) := ((Below.refl _ w4).alloc (Nat.le_refl _) _).trans (hb5.mono (by simp))
  have HB5 := hid (HB4.out.trans (HX4.out.mono HB4.out.size))
  have HBuf5 := hid (HBuf4.out.later HX4.out)
  clear hb5 HL4
  go_wp2_with fail
  have ht5 : takeN 5 [t1] = 1 := by decide
  have hT := take_any W.heap.size h3 1 [t1] 1 5 _ HBuf5.out
  rw [ht5] at hT
  refine hT.mono ?_
  rintro e w6 ⟨a6, cap6, rfl, ho6, hbuf6, HL6⟩
  have HB6 := hid (HB5.out.trans (HBuf5.out.below ho6))
  have HBuf6 : Hid (BufIs w6 W.heap.size h3 1 [] 1) := hbuf6
  have HR6 : Hid (RowsOf (fun b => w5.heap.size ≤ b ∧ b < w6.heap.size) Sp.enc 11 w6 (.slice a6 1 cap6) [t1]) := RowsOf.of_owns Sp.enc_length (l := List.take 1 [t1]) HL6.out
  clear ho6 hbuf6 HL6 hT
  go_wp2_with fail
  refine (same_list _ _ [t1] _ ⟨_, fun b hb => (by have := hb.2; simp; omega), HR6.out.below (B := w6.heap.size) ((Below.refl _ w6).alloc (Nat.le_refl _) _) (fun b h => h.2)⟩ ⟨_, fun b hb => (by rw [hb]; simp), rows_of_blk Sp.enc_length (l := [t1]) (Blk.new w6 _ 79) (by decide)⟩ (by simp)).mono ?_
  rintro e w7 ⟨rfl, hb7⟩
  have HX6 : Hid (Below w6.heap.size w6 w7) := ((Below.refl _ w6).alloc (Nat.le_refl _) _).trans (hb7.mono (by simp))
  have HB7 := hid (HB6.out.trans (HX6.out.mono HB6.out.size))
  have HBuf7 := hid (HBuf6.out.later HX6.out)
  clear hb7 HR6
  go_wp2_with fail
  refine (len_any W.heap.size h3 1 [] 1 _ HBuf7.out).mono ?_
  rintro e w' ⟨rfl, rfl⟩
  go_wp2_with fail
  refine (nil_put _).mono ?_
  rintro e w8 ⟨rfl, hb8⟩
  have HB8 := hid (HB7.out.trans (hb8.mono HB7.out.size))
  clear hb8
  go_wp2_with fail
  refine (nil_take _).mono ?_
  rintro e w' ⟨rfl, rfl⟩
  go_wp2_with fail
  refine (nil_all _).mono ?_
  rintro e w' ⟨rfl, rfl⟩
  go_wp2_with fail
  refine (nil_len _).mono ?_
  rintro e w' ⟨rfl, rfl⟩
  go_wp2_with fail
  refine (nil_lost _).mono ?_
  rintro e w' ⟨rfl, rfl⟩
  go_wp2_with fail
  go_ret
  exact ⟨rfl, HB8.out⟩
end C25
end Go.Proofs.Ytefaegoajjcfjaa
