/- Walks of layer 25 (buffer): the first ones taken; no condition. -/
import Derived.Test.YtefaegoajjcfjaaF25
import Derived.Test.YtefaegoajjcfjaaP25
import Derived.Test.YtefaegoajjcfjaaQ24
namespace Go.Proofs.Ytefaegoajjcfjaa
open Go.RowKit Go.Peri
namespace C25

theorem owns_later {w w' : World} {base : Nat} {e : TypeId} {size : Nat} {v : Value} {n : Nat} {xs : List Value} (h : w.ownsRow base e size v n xs) (hb : Below w.heap.size w w') : w'.ownsRow base e size v n xs := by
  obtain ⟨h1, h2⟩ := h
  refine ⟨h1, h2.imp id ?_⟩
  rintro ⟨k, cp, cur, q1, q2, q3, q4⟩
  exact ⟨k, cp, cur, q1, q2, (hb.block k (Array.getElem?_eq_some_iff.1 q3).1).trans q3, q4⟩
theorem owns_only {S : List Nat} {w w' : World} {base : Nat} {e : TypeId} {size : Nat} {v : Value} {n : Nat} {xs : List Value} (h : w.ownsRow base e size v n xs) (ho : Only S w w') (hs : ∀ k, k ∈ S → k < base) : w'.ownsRow base e size v n xs := by
  obtain ⟨h1, h2⟩ := h
  refine ⟨h1, h2.imp id ?_⟩
  rintro ⟨k, cp, cur, q1, q2, q3, q4⟩
  exact ⟨k, cp, cur, q1, q2, (ho.block k (Array.getElem?_eq_some_iff.1 q3).1 (fun hm => by have := hs k hm; omega)).trans q3, q4⟩
theorem BufIs.later {w w' : World} {g : Nat} {h : Option Nat} {room : Nat} {l : List Sp} {lost : Int} (hb : BufIs w g h room l lost) (hw : Below w.heap.size w w') : BufIs w' g h room l lost := by
  obtain ⟨v, h1, h2, h3, h4⟩ := hb
  exact ⟨v, h1, h2.later hw, owns_later h3 hw, h4⟩

set_option maxRecDepth 100000 in
theorem delete_zero (a : Option Addr) (n cap : Nat) (w : World) (hn : n ≤ cap) :
    Calls Try.prog 70 #[.slice a n cap, .int .i64 0, .int .i64 0] w fun e w' => e = .returned (.slice a n cap) ∧ w = w' := by
  have k1 : (0 : Int) ≤ (n : Int) := by omega
  have k2 : (n : Int) ≤ (cap : Int) := by omega
  go_enter Try.func70, Try.ntmps70
  go_wp2
  go_ret
  exact ⟨rfl, rfl⟩

def TakeQ (g : Nat) (h : Option Nat) (room : Nat) (l : List Sp) (lost : Int) (j : Nat) (w : World) (e : Ending) (w' : World) : Prop :=
  ∃ a cap, e = .returned (.slice a (l.take j).length cap) ∧ Only (own g h) w w' ∧ BufIs w' g h room (l.drop j) lost ∧ Hid (w'.ownsRow w.heap.size 79 11 (.slice a (l.take j).length cap) (l.take j).length ((l.take j).flatMap Sp.enc))

theorem buf_store {w : World} {g : Nat} {h' : Option Nat} {room : Nat} {v0 v : Value} {lost : Int} {l : List Sp} (hB : Blk w g #[.int .i64 room, v0, .int .i64 lost] 123) (ho : w.ownsRow (g + 1) 79 11 v l.length (l.flatMap Sp.enc)) (hv : v.ownBlock = h') (h1 : l.length ≤ room) (h2 : room ≤ 64) (h3 : 0 ≤ lost) (h4 : lost ≤ 1099511627776) :
    BufIs (w.setCell ⟨g, 1, none⟩ v) g h' room l lost := by
  refine ⟨v, hv, hB.set 1 v, ?_, h1, h2, h3, h4⟩
  obtain ⟨g1, g2⟩ := ho
  refine ⟨g1, g2.imp id ?_⟩
  rintro ⟨k, cp, cur, q1, q2, q3, q4⟩
  exact ⟨k, cp, cur, q1, q2, (Below.heap_setCell _ _ _ _ (by show k ≠ g; omega)).trans q3, q4⟩

set_option maxRecDepth 100000 in
set_option maxHeartbeats 4000000 in
theorem take_zero (g : Nat) (h : Option Nat) (room : Nat) (l : List Sp) (lost : Int) (n : Int) (w : World) (hb : BufIs w g h room l lost) (hn : n ≤ 0 ∨ l.length = 0) :
    Calls Try.prog 51 #[.pointer (some ⟨g, 0, none⟩), .int .i64 n] w (TakeQ g h room l lost 0 w) := by
  obtain ⟨a, cap, e1, h2, h3, h4, h5, h6, h7⟩ := hb.form
  have hgl := h2.lt
  have c1 : w.cell? ⟨g, 1, none⟩ = some (.slice a l.length cap) := h2.cell 1
  have hr := RowsOf.of_owns Sp.enc_length h3
  have hrr := hr
  obtain ⟨a', cap', e9, hlc, hcm, hnn, _⟩ := hrr
  cases e9
  have HT : Hid (RowsOf (fun b => g + 1 ≤ b ∧ b < w.heap.size) Sp.enc 11 w (.slice a 0 cap) (l.take 0)) := hr.take 0 (by omega)
  have HG := hid h2
  have HO := hid h3
  have HE := hid e1
  have hlc' : (l.length : Int) ≤ (cap : Int) := by omega
  have k0 : (0 : Int) ≤ (cap : Int) := by omega
  clear hr h2 h3 hb e1 hnn hcm
  have fin : ∀ w1 : World, Below w.heap.size w w1 → ∀ a1 cap1, w1.ownsRow w.heap.size 79 11 (.slice a1 (l.take 0).length cap1) (l.take 0).length ((l.take 0).flatMap Sp.enc) →
      TakeQ g h room l lost 0 w (.returned (.slice a1 (l.take 0).length cap1)) (w1.setCell ⟨g, 1, none⟩ (.slice a l.length cap)) := by
    intro w1 hb1 a1 cap1 hl1
    refine ⟨a1, cap1, rfl, ((Only.of_below hb1).setCell (by simp [own]) _), ?_, ?_⟩
    · rw [List.drop_zero]
      exact buf_store (HG.out.later hb1) (owns_later HO.out hb1) HE.out h4 h5 h6 h7
    · exact owns_only hl1 ((Only.refl [g] w1).setCell (by simp) _) (by simpa using hgl)
  have HFin := hid fin
  clear fin
  have key : ∀ n : Int, (n < 0 ∨ n = 0 ∨ (0 < n ∧ l.length = 0)) → Calls Try.prog 51 #[.pointer (some ⟨g, 0, none⟩), .int .i64 n] w (TakeQ g h room l lost 0 w) := by
    intro n hn
    by_cases hlt : n < (l.length : Int)
    · by_cases hn0 : n < 0
      · go_enter Try.func51, Try.ntmps51
        go_wp2_with fail
        refine (clone_any _ (l.take 0) _ HT.out (fun b h => h.2) (by simp)).mono ?_
        rintro e w1 ⟨a1, cap1, rfl, hb1, HL1⟩
        have c2 := (hb1.cell (p := ⟨g, 1, none⟩) hgl).trans c1
        have hF := hid (HFin.out w1 hb1 a1 cap1 HL1.out)
        have d2 : w1.frozen? ⟨g, 1, none⟩ = false := (HG.out.later hb1).free 1
        clear hb1
        go_wp2_with fail
        refine (delete_zero _ _ _ _ hlc).mono ?_
        rintro e w' ⟨rfl, rfl⟩
        go_wp2_with fail
        go_ret
        exact hF.out
      · obtain rfl : n = 0 := by omega
        go_enter Try.func51, Try.ntmps51
        go_wp2_with fail
        refine (clone_any _ (l.take 0) _ HT.out (fun b h => h.2) (by simp)).mono ?_
        rintro e w1 ⟨a1, cap1, rfl, hb1, HL1⟩
        have c2 := (hb1.cell (p := ⟨g, 1, none⟩) hgl).trans c1
        have hF := hid (HFin.out w1 hb1 a1 cap1 HL1.out)
        have d2 : w1.frozen? ⟨g, 1, none⟩ = false := (HG.out.later hb1).free 1
        clear hb1
        go_wp2_with fail
        refine (delete_zero _ _ _ _ hlc).mono ?_
        rintro e w' ⟨rfl, rfl⟩
        go_wp2_with fail
        go_ret
        exact hF.out
    · by_cases hn0 : n < 0
      · omega
      · have hl0 : l.length = 0 := by omega
        have hln : l = [] := List.length_eq_zero_iff.1 hl0
        subst hln
        by_cases hz : n = 0
        · subst hz
          go_enter Try.func51, Try.ntmps51
          go_wp2_with fail
          refine (clone_any _ (List.take 0 ([] : List Sp)) _ HT.out (fun b h => h.2) (by simp)).mono ?_
          rintro e w1 ⟨a1, cap1, rfl, hb1, HL1⟩
          have c2 := (hb1.cell (p := ⟨g, 1, none⟩) hgl).trans c1
          have hF := hid (HFin.out w1 hb1 a1 cap1 HL1.out)
          have d2 : w1.frozen? ⟨g, 1, none⟩ = false := (HG.out.later hb1).free 1
          clear hb1
          go_wp2_with fail
          refine (delete_zero _ _ _ _ hlc).mono ?_
          rintro e w' ⟨rfl, rfl⟩
          go_wp2_with fail
          go_ret
          exact hF.out
        · have hz2 : 0 < n := by omega
          go_enter Try.func51, Try.ntmps51
          go_wp2_with fail
          refine (clone_any _ (List.take 0 ([] : List Sp)) _ HT.out (fun b h => h.2) (by simp)).mono ?_
          rintro e w1 ⟨a1, cap1, rfl, hb1, HL1⟩
          have c2 := (hb1.cell (p := ⟨g, 1, none⟩) hgl).trans c1
          have hF := hid (HFin.out w1 hb1 a1 cap1 HL1.out)
          have d2 : w1.frozen? ⟨g, 1, none⟩ = false := (HG.out.later hb1).free 1
          clear hb1
          go_wp2_with fail
          refine (delete_zero _ _ _ _ hlc).mono ?_
          rintro e w' ⟨rfl, rfl⟩
          go_wp2_with fail
          go_ret
          exact hF.out
  exact key n (by omega)

set_option maxRecDepth 100000 in
set_option maxHeartbeats 4000000 in
theorem take_pos (g hb0 : Nat) (room : Nat) (l : List Sp) (lost : Int) (n : Int) (j cap : Nat) (w : World) (h2 : Blk w g #[.int .i64 room, .slice (some ⟨hb0, 0, none⟩) l.length cap, .int .i64 lost] 123) (h3 : w.ownsRow (g + 1) 79 11 (.slice (some ⟨hb0, 0, none⟩) l.length cap) l.length (l.flatMap Sp.enc))
    (h4 : l.length ≤ room) (h5 : room ≤ 64) (h6 : 0 ≤ lost) (h7 : lost ≤ 1099511627776) (hj : 0 < j) (hjl : j ≤ l.length) (hn : n = j ∨ ((l.length : Int) < n ∧ j = l.length)) :
    Calls Try.prog 51 #[.pointer (some ⟨g, 0, none⟩), .int .i64 n] w (TakeQ g (some hb0) room l lost j w) := by
  have hgl := h2.lt
  have c1 : w.cell? ⟨g, 1, none⟩ = some (.slice (some ⟨hb0, 0, none⟩) l.length cap) := h2.cell 1
  have hr := RowsOf.of_owns Sp.enc_length h3
  have hrr := hr
  obtain ⟨a', cap', e9, hlc, hcm, hnn, _⟩ := hrr
  cases e9
  have hlt := h3.lt hb0 rfl
  have HT : Hid (RowsOf (fun b => g + 1 ≤ b ∧ b < w.heap.size) Sp.enc 11 w (.slice (some ⟨hb0, 0, none⟩) j cap) (l.take j)) := hr.take j hjl
  have HG := hid h2
  have HO := hid h3
  have k0 : (0 : Int) ≤ (cap : Int) := by omega
  have k1 : (j : Int) ≤ (cap : Int) := by omega
  have k2 : (0 : Int) ≤ (j : Int) := by omega
  have htl : (l.take j).length = j := by rw [List.length_take]; omega
  have HTL := hid htl
  clear hr h2 h3 hnn hcm htl
  have fin : ∀ w1 w2 : World, Below w.heap.size w w1 → ∀ a1 cap1, w1.ownsRow w.heap.size 79 11 (.slice a1 (l.take j).length cap1) (l.take j).length ((l.take j).flatMap Sp.enc) → Only [hb0] w1 w2 → w2.ownsRow (g + 1) 79 11 (.slice (some ⟨hb0, 0, none⟩) (l.length - j) cap) (l.length - j) ((l.drop j).flatMap Sp.enc) →
      TakeQ g (some hb0) room l lost j w (.returned (.slice a1 (l.take j).length cap1)) (w2.setCell ⟨g, 1, none⟩ (.slice (some ⟨hb0, 0, none⟩) (l.length - j) cap)) := by
    intro w1 w2 hb1 a1 cap1 hl1 ho2 hown
    have hg1 : w.heap.size ≤ w1.heap.size := hb1.size
    refine ⟨a1, cap1, rfl, ((Only.of_below hb1).trans (ho2.mono (by simp [own]))).setCell (by simp [own]) _, ?_, ?_⟩
    · refine buf_store ((HG.out.later hb1).only ho2 (by simp; omega)) ?_ rfl (by rw [List.length_drop]; omega) h5 h6 h7
      rw [List.length_drop]
      exact hown
    · exact owns_only (owns_only hl1 ho2 (by simp; omega)) ((Only.refl [g] w2).setCell (by simp) _) (by simpa using hgl)
  have HFin := hid fin
  clear fin
  rcases hn with rfl | ⟨hn, rfl⟩
  · have m1 : ¬ (l.length : Int) < (j : Int) := by omega
    have m2 : ¬ (j : Int) < 0 := by omega
    have m3 : (0 : Int) < (j : Int) := by omega
    have m4 : (j : Int) ≤ (l.length : Int) := by omega
    go_enter Try.func51, Try.ntmps51
    go_wp2_with fail
    refine (clone_any _ (l.take j) _ HT.out (fun b h => h.2) (by rw [HTL.out]; omega)).mono ?_
    rintro e w1 ⟨a1, cap1, rfl, hb1, HL1⟩
    have c2 := (hb1.cell (p := ⟨g, 1, none⟩) hgl).trans c1
    have HB1 := hid hb1
    clear hb1
    go_wp2_with fail
    refine (delete_pos (g + 1) hb0 cap j l _ (owns_later HO.out HB1.out) hj hjl (by omega)).mono ?_
    rintro e w2 ⟨v2, rfl, rfl, ho2, hown2⟩
    have c3 := ((HG.out.later HB1.out).only ho2 (by simp; omega)).cell 1
    have d3 := ((HG.out.later HB1.out).only ho2 (by simp; omega)).free 1
    simp only [List.getElem?_toArray, List.getElem?_cons_zero, List.getElem?_cons_succ] at c3
    have hF := hid (HFin.out w1 w2 HB1.out a1 cap1 HL1.out ho2 hown2)
    clear ho2 hown2
    go_wp2_with fail
    go_ret
    have hF2 := hF.out
    rw [HTL.out] at hF2
    exact hF2
  · have m2 : ¬ (n : Int) < 0 := by omega
    have m3 : (0 : Int) < (l.length : Int) := by omega
    by_cases m1 : n < (l.length : Int)
    · omega
    · go_enter Try.func51, Try.ntmps51
      go_wp2_with fail
      refine (clone_any _ (l.take l.length) _ HT.out (fun b h => h.2) (by rw [HTL.out]; omega)).mono ?_
      rintro e w1 ⟨a1, cap1, rfl, hb1, HL1⟩
      have c2 := (hb1.cell (p := ⟨g, 1, none⟩) hgl).trans c1
      have HB1 := hid hb1
      clear hb1
      go_wp2_with fail
      refine (delete_pos (g + 1) hb0 cap l.length l _ (owns_later HO.out HB1.out) hj hjl (by omega)).mono ?_
      rintro e w2 ⟨v2, rfl, rfl, ho2, hown2⟩
      have c3 := ((HG.out.later HB1.out).only ho2 (by simp; omega)).cell 1
      have d3 := ((HG.out.later HB1.out).only ho2 (by simp; omega)).free 1
      simp only [List.getElem?_toArray, List.getElem?_cons_zero, List.getElem?_cons_succ] at c3
      have hF := hid (HFin.out w1 w2 HB1.out a1 cap1 HL1.out ho2 hown2)
      clear ho2 hown2
      go_wp2_with fail
      go_ret
      have hF2 := hF.out
      rw [HTL.out, Nat.sub_self] at hF2
      exact hF2
end C25
end Go.Proofs.Ytefaegoajjcfjaa
