/- Walks of layer 21 (ring): what each call returns and what it leaves of memory; no condition. -/
import Derived.Test.YtefaegoajjcfjaaProg
import Derived.Test.YtefaegoajjcfjaaBase2
import Derived.Test.YtefaegoajjcfjaaP21
namespace Go.Proofs.Ytefaegoajjcfjaa
open Go.RowKit Go.Peri
namespace C21

theorem load_any (g k : Nat) (x : Int) (w : World) (hc : w.cell? ⟨g, k, none⟩ = some (.int .i64 x)) :
    Calls Try.prog 68 #[.pointer (some ⟨g, k, none⟩)] w fun e w' => e = .returned (.int .i64 x) ∧ w = w' := by
  have hl := run_call_load (P := Try.prog) Try.func76 (by kernel_rfl) (by kernel_rfl) (by kernel_rfl) .i64 (by kernel_rfl) hc
  go_enter Try.func68, Try.ntmps68
  go_wp2
  go_ret
  exact ⟨rfl, rfl⟩
theorem store_any (g k : Nat) (x : Int) (u : Value) (w : World) (hc : w.cell? ⟨g, k, none⟩ = some u) (hz : w.frozen? ⟨g, k, none⟩ = false) :
    Calls Try.prog 71 #[.pointer (some ⟨g, k, none⟩), .int .i64 x] w fun e w' => e = .returned (.tuple #[]) ∧ w.setCell ⟨g, k, none⟩ (.int .i64 x) = w' := by
  have hl := run_call_store (P := Try.prog) Try.func77 (by kernel_rfl) (by kernel_rfl) (by kernel_rfl) (by kernel_rfl) (k := .i64) (y := x) hc hz
  go_enter Try.func71, Try.ntmps71
  go_wp2
  go_end0
  exact ⟨rfl, rfl⟩

def fullC (l : Int) : Int := min (l + 1) 1099511627776

set_option maxRecDepth 100000 in
theorem lose_any (g : Nat) (a b c : Value) (l : Int) (w : World) (hb : Blk w g #[a, b, c, .int .i64 l] 111) (h0 : 0 ≤ l) (h1 : l ≤ 1099511627776) :
    Calls Try.prog 75 #[.pointer (some ⟨g, 0, none⟩)] w fun e w' => e = .returned (.tuple #[]) ∧ Only [g] w w' ∧ Blk w' g #[a, b, c, .int .i64 (min (l + 1) 1099511627776)] 111 := by
  have c3 : w.cell? ⟨g, 3, none⟩ = some (.int .i64 l) := hb.cell 3
  have f3 := hb.free 3
  have hwr : IntKind.i64.wrap (l + 1) = l + 1 := IntWalk.i64_in _ (by omega)
  have fin : ∀ m : Int, m = min (l + 1) 1099511627776 → Only [g] w ((w.setCell ⟨g, 3, none⟩ (.int .i64 m)).drew) ∧ Blk ((w.setCell ⟨g, 3, none⟩ (.int .i64 m)).drew) g #[a, b, c, .int .i64 (min (l + 1) 1099511627776)] 111 := by
    rintro m rfl
    exact ⟨((Only.refl _ _).setCell (by simp) _).drew, (hb.set 3 _).drew⟩
  have HF := hid fin
  clear hb fin
  by_cases hm : 1099511627776 < l + 1
  all_goals
    go_enter Try.func75, Try.ntmps75
    go_wp2_with fail
    refine wp_region_still_tail 9 (by kernel_rfl) (by kernel_rfl) ?_
    simp only [List.take_succ_cons, List.take_zero, List.drop_succ_cons, List.drop_zero]
    repeat still_step
    still_call ((load_any g 3 l w.drew c3).mono fun _ _ hh => ⟨hh.1, hh.2.symm⟩)
    repeat still_step
    refine wpStill_nil ?_
    change wpList _ _ _ _ _ w.drew
    go_wp2_with fail
    refine (store_any g 3 _ _ w.drew c3 f3).mono ?_
    rintro e w' ⟨rfl, rfl⟩
    go_wp2_with fail
    go_end0
    exact ⟨rfl, HF.out _ (by omega)⟩

/-- The two blocks of a ring. -/
def RingB (w : World) (g h : Nat) (xs : List Value) (first size : Nat) (l : Int) : Prop :=
  g ≠ h ∧ Blk w g #[.slice (some ⟨h, 0, none⟩) xs.length xs.length, .int .i64 first, .int .i64 size, .int .i64 l] 111 ∧ Blk w h xs.toArray 9 ∧
    (first < xs.length ∨ first = 0) ∧ size ≤ xs.length ∧ xs.length ≤ 64 ∧ 0 ≤ l ∧ l ≤ 1099511627776

set_option maxRecDepth 100000 in
theorem put_zero (g h : Nat) (s : ByteArray) (first size : Nat) (l : Int) (w : World) (hr : RingB w g h [] first size l) :
    Calls Try.prog 67 #[.pointer (some ⟨g, 0, none⟩), .string s] w fun e w' => e = .returned (.tuple #[]) ∧ Only [g, h] w w' ∧ RingB w' g h [] first size (min (l + 1) 1099511627776) := by
  obtain ⟨hne, hg, hh, hf, hs, hn, h0, h1⟩ := hr
  have c0 : w.cell? ⟨g, 0, none⟩ = some (.slice (some ⟨h, 0, none⟩) 0 0) := hg.cell 0
  have HG := hid hg
  have HH := hid hh
  clear hg hh
  go_enter Try.func67, Try.ntmps67
  go_wp2_with fail
  refine (lose_any g _ _ _ l _ HG.out h0 h1).mono ?_
  rintro e w' ⟨rfl, ho, hb⟩
  have HO := hid ho
  have HB := hid hb
  clear ho hb
  go_wp2_with fail
  go_end0
  exact ⟨rfl, HO.out.mono (by simp), hne, HB.out, HH.out.only HO.out (by simpa using hne.symm), hf, hs, hn, by omega, by omega⟩

set_option maxRecDepth 100000 in
theorem put_full (g h : Nat) (s : ByteArray) (xs : List Value) (first : Nat) (l : Int) (w : World) (hr : RingB w g h xs first xs.length l) (hx : 0 < xs.length) :
    Calls Try.prog 67 #[.pointer (some ⟨g, 0, none⟩), .string s] w fun e w' => e = .returned (.tuple #[]) ∧ Only [g, h] w w' ∧ RingB w' g h (xs.set first (.string s)) ((first + 1) % xs.length) xs.length (min (l + 1) 1099511627776) := by
  obtain ⟨hne, hg, hh, hf, hs, hn, h0, h1⟩ := hr
  have hf' : first < xs.length := by omega
  obtain ⟨n, hxn⟩ : ∃ n, n = xs.length := ⟨_, rfl⟩
  have c0 : w.cell? ⟨g, 0, none⟩ = some (.slice (some ⟨h, 0, none⟩) n n) := by rw [hxn]; exact hg.cell 0
  have c1 : w.cell? ⟨g, 1, none⟩ = some (.int .i64 first) := hg.cell 1
  have c2 : w.cell? ⟨g, 2, none⟩ = some (.int .i64 n) := by rw [hxn]; exact hg.cell 2
  have f1 := hg.free 1
  have fh := hh.free first
  obtain ⟨u, hu⟩ : ∃ u, w.cell? ⟨h, first, none⟩ = some u := ⟨_, by rw [hh.cell, Array.getElem?_eq_getElem (by simpa using hf')]⟩
  have HG := hid hg
  have HH := hid hh
  have HX := hid hxn
  have hfn : first < n := by omega
  have hnn : n ≤ 64 := by omega
  have t0 : ((n : Int) == 0) = false := by simp; omega
  have hne' : ¬ h = g := fun e => hne e.symm
  clear hg hh hxn hf hs hx hf' hn
  go_enter Try.func67, Try.ntmps67
  go_wp2_with fail
  refine wp_region_still_tail 10 (by kernel_rfl) (by kernel_rfl) ?_
  simp only [List.take_succ_cons, List.take_zero, List.drop_succ_cons, List.drop_zero]
  repeat still_step
  refine wpStill_nil ?_
  change wpList _ _ _ _ _ w.drew
  go_wp2_with fail
  have hm : Hid (((first : Int) + 1) % (n : Int) = (((first + 1) % n : Nat) : Int)) := by show _ = _; simp
  have hb1 : Blk (((w.setCell ⟨h, first, none⟩ (.string s)).setCell ⟨g, 1, none⟩ (.int .i64 (((first : Int) + 1) % (n : Int)))).drew) g #[.slice (some ⟨h, 0, none⟩) n n, .int .i64 (((first : Int) + 1) % (n : Int)), .int .i64 n, .int .i64 l] 111 := by
    rw [HX.out]; exact ((HG.out.other (p := ⟨h, first, none⟩) hne _).set 1 _).drew
  have hb2 : Blk (((w.setCell ⟨h, first, none⟩ (.string s)).setCell ⟨g, 1, none⟩ (.int .i64 (((first : Int) + 1) % (n : Int)))).drew) h (xs.set first (.string s)).toArray 9 := by
    rw [← List.setIfInBounds_toArray]; exact ((HH.out.set first _).other (p := ⟨g, 1, none⟩) hne' _).drew
  have ho1 : Only [g, h] w (((w.setCell ⟨h, first, none⟩ (.string s)).setCell ⟨g, 1, none⟩ (.int .i64 (((first : Int) + 1) % (n : Int)))).drew) :=
    (((Only.refl _ _).setCell (p := ⟨h, first, none⟩) (by simp) _).setCell (p := ⟨g, 1, none⟩) (by simp) _).drew
  have HB1 := hid hb1
  have HB2 := hid hb2
  have HO1 := hid ho1
  clear hb1 hb2 ho1
  refine (lose_any g _ _ _ l _ HB1.out h0 h1).mono ?_
  rintro e w' ⟨rfl, ho, hb⟩
  have HO := hid ho
  have HB := hid hb
  clear ho hb
  go_wp2_with fail
  go_end0
  have hxn := HX.out
  refine ⟨rfl, HO1.out.trans (HO.out.mono (by simp)), hne, ?_, HB2.out.only HO.out (by simpa using hne'), ?_, ?_, ?_, by omega, by omega⟩
  · have := HB.out
    rw [hm.out] at this
    simp only [List.length_set]
    rw [← hxn]
    exact this
  · rw [List.length_set, ← hxn]; exact .inl (Nat.mod_lt _ (by omega))
  · simp
  · rw [List.length_set]; omega

set_option maxRecDepth 100000 in
theorem put_more (g h : Nat) (s : ByteArray) (xs : List Value) (first size : Nat) (l : Int) (w : World) (hr : RingB w g h xs first size l) (hx : size < xs.length) :
    Calls Try.prog 67 #[.pointer (some ⟨g, 0, none⟩), .string s] w fun e w' => e = .returned (.tuple #[]) ∧ Only [g, h] w w' ∧ RingB w' g h (xs.set ((first + size) % xs.length) (.string s)) first (size + 1) l := by
  obtain ⟨hne, hg, hh, hf, hs, hn, h0, h1⟩ := hr
  have hf' : first < xs.length := by omega
  obtain ⟨n, hxn⟩ : ∃ n, n = xs.length := ⟨_, rfl⟩
  obtain ⟨k, hk⟩ : ∃ k, k = (first + size) % xs.length := ⟨_, rfl⟩
  have hkn : k < n := by rw [hk, hxn]; exact Nat.mod_lt _ (by omega)
  have c0 : w.cell? ⟨g, 0, none⟩ = some (.slice (some ⟨h, 0, none⟩) n n) := by rw [hxn]; exact hg.cell 0
  have c1 : w.cell? ⟨g, 1, none⟩ = some (.int .i64 first) := hg.cell 1
  have c2 : w.cell? ⟨g, 2, none⟩ = some (.int .i64 size) := hg.cell 2
  have f2 := hg.free 2
  have fh := hh.free k
  obtain ⟨u, hu⟩ : ∃ u, w.cell? ⟨h, k, none⟩ = some u := ⟨_, by rw [hh.cell, Array.getElem?_eq_getElem (by simp; omega)]⟩
  have hki : Hid (((first : Int) + (size : Int)).tmod (n : Int) = (k : Int)) := by
    show _ = _
    rw [hk, ← hxn, Int.tmod_eq_emod_of_nonneg (by omega)]; simp
  have HG := hid hg
  have HH := hid hh
  have HX := hid hxn
  have HK := hid hk
  have hfn : first < n := by omega
  have hsn : size < n := by omega
  have hnn : n ≤ 64 := by omega
  have t0 : ((n : Int) == 0) = false := by simp; omega
  have t1 : ((size : Int) == (n : Int)) = false := by simp; omega
  have hne' : ¬ h = g := fun e => hne e.symm
  clear hg hh hxn hf hs hx hf' hn hk
  go_enter Try.func67, Try.ntmps67
  go_wp2_with fail
  have w1 : IntKind.i64.wrap ((first : Int) + (size : Int)) = (first : Int) + (size : Int) := IntWalk.i64_in _ (by omega)
  have w2 : IntKind.i64.wrap (k : Int) = (k : Int) := IntWalk.i64_in _ (by omega)
  have w3 := hki.out
  have w4 : ¬ n = 0 := by omega
  refine wp_region_still_tail 17 (by kernel_rfl) (by kernel_rfl) ?_
  simp only [List.take_succ_cons, List.take_zero, List.drop_succ_cons, List.drop_zero]
  repeat still_step
  clear w1 w2 w3 w4
  refine wpStill_nil ?_
  change wpList _ _ _ _ _ w.drew
  go_wp2_with fail
  go_end0
  have hxn := HX.out
  have hk := HK.out
  refine ⟨rfl, (((Only.refl _ _).setCell (p := ⟨h, k, none⟩) (by simp) _).setCell (p := ⟨g, 2, none⟩) (by simp) _).drew, hne, ?_, ?_, ?_, ?_, ?_, by omega, by omega⟩
  · rw [List.length_set]; exact ((HG.out.other (p := ⟨h, k, none⟩) hne _).set 2 _).drew
  · rw [← hk, ← List.setIfInBounds_toArray]; exact ((HH.out.set k _).other (p := ⟨g, 2, none⟩) hne' _).drew
  · rw [List.length_set, ← hxn]; exact .inl (by omega)
  · rw [List.length_set]; omega
  · rw [List.length_set]; omega
end C21
end Go.Proofs.Ytefaegoajjcfjaa
