/- Walks of layer 28 (net): a letter taken, lost, copied; no condition. -/
import Derived.Test.YthmopkaecbebpaaD28
import Derived.Deep.Cut
namespace Go.Proofs.Ythmopkaecbebpaa
open Go.RowKit Go.Peri
namespace C28
@[go_sem] theorem run_store_fn {P : Program} {w : World} {a : Addr} {m : Mode} (f : Fn) (l c : Array Value) : (store a (.func f l c) m).run P w = stored P w a (.func f l c) m := run_store P w a _ m rfl
/-- A letter's value. -/
def lv (x : Lt) : Value := .agg #[.int .i64 x.no, .int .i64 x.from_, .int .i64 x.to, .string x.bytes]
theorem with_nil (k : Int) (f : Value) (w : World) : Calls Try.prog 77 #[.pointer none, .int .i64 k, f] w fun e w' => e = .returned (.bool false) ∧ w = w' := by
  go_enter Try.func77, Try.ntmps77
  go_wp2
  go_ret
  exact ⟨rfl, rfl⟩
theorem with_no (g m : Nat) (F : List Nat) (s : Nt) (k : Int) (f : Value) (w : World) (h : NetIs w g F m s) (hk : s.has k = false) : Calls Try.prog 77 #[.pointer (some ⟨g, 0, none⟩), .int .i64 k, f] w fun e w' => e = .returned (.bool false) ∧ w = w' := by
  obtain ⟨a, cap, _, hp⟩ := h.form
  have c0 : w.cell? ⟨g, 0, none⟩ = some (.slice a s.all.length cap) := hp.blk.cell 0
  have hh : ¬ (0 ≤ k ∧ k < s.all.length) := by rw [← Nt.has_iff]; simp [hk]
  clear hp h hk
  by_cases h1 : k < 0
  · go_enter Try.func77, Try.ntmps77
    go_wp2
    go_ret
    exact ⟨rfl, rfl⟩
  · have h2 : (s.all.length : Int) ≤ k := by omega
    clear hh
    go_enter Try.func77, Try.ntmps77
    go_wp2
    go_ret
    exact ⟨rfl, rfl⟩
/-- What stands ahead of the call of what is handed in. -/
theorem at_k {g m : Nat} {F : List Nat} {s : Nt} {k : Nat} {w : World} (h : NetIs w g F m s) (hk : k < s.all.length) :
    ∃ b cap, w.cell? ⟨g, 0, none⟩ = some (.slice (some ⟨b, 0, none⟩) s.all.length cap) ∧ b < w.heap.size ∧ (s.all.length : Nat) ≤ cap ∧
      w.cell? ⟨b, k * 4, none⟩ = some (.int .i64 (s.at_ k).no) ∧ w.cell? ⟨b, k * 4 + 1, none⟩ = some (.int .i64 (s.at_ k).from_) ∧ w.cell? ⟨b, k * 4 + 2, none⟩ = some (.int .i64 (s.at_ k).to) ∧ w.cell? ⟨b, k * 4 + 3, none⟩ = some (.string (s.at_ k).bytes) := by
  obtain ⟨a, cap, _, hp⟩ := h.form
  have c0 : w.cell? ⟨g, 0, none⟩ = some (.slice a s.all.length cap) := hp.blk.cell 0
  have hat : s.at_ k = s.all[k] := by show s.all.getD _ _ = _; simp [List.getD, hk]
  rw [hat]
  rcases hp.own.2 with ⟨h5, h0⟩ | ⟨gg, cp, cur, h5, hge, hheap, h6, h7, h8, h9⟩
  · omega
  · injection h5 with h5 _ h5c
    subst h5 h5c
    have hr := RowsOf.of_owns (e := 62) Lt.enc_length hp.own
    obtain ⟨_, _, e, _, _, _, hc⟩ := hr
    cases e
    obtain ⟨b, off, e, hb, hc⟩ := hc.resolve_left (by intro e; rw [e] at hk; simp at hk)
    cases e
    obtain ⟨y0, y1, y2, y3⟩ := Lt.cells (hc k hk)
    simp only [Nat.zero_add] at y0 y1 y2 y3
    exact ⟨gg, cap, c0, hb.2, h6, y0, y1, y2, y3⟩
/-- Where the variables lie that a function value has caught: each whole, none of the net's own. -/
structure Caught (w : World) (g : Nat) (F : List Nat) (k : Nat) (N K : Nat) : Prop where
  n : Blk w N #[.pointer (some ⟨g, 0, none⟩)] 48
  k : Blk w K #[.int .i64 k] 3
  hn : N ∉ F
  hk : K ∉ F
set_option maxRecDepth 100000 in
set_option maxHeartbeats 1000000 in
theorem take1_any (g m : Nat) (F : List Nat) (s : Nt) (k X N K : Nat) (x : Lt) (v0 v1 v2 v3 : Value) (w : World) (h : NetIs w g F m s) (hk : k < s.all.length) (hc : Caught w g F k N K) (hX : Blk w X #[v0, v1, v2, v3] 62) (hXF : X ∉ F) (hXN : X ≠ N) (hXK : X ≠ K) :
    Calls Try.prog 78 #[lv x, .pointer (some ⟨X, 0, none⟩), .pointer (some ⟨N, 0, none⟩), .pointer (some ⟨K, 0, none⟩)] w fun e w' => e = .returned (.bool true) ∧ Only (X :: F) w w' ∧ Hid (NetIs w' g F m (s.off k)) ∧ Hid (Blk w' X #[.int .i64 x.no, .int .i64 x.from_, .int .i64 x.to, .string x.bytes] 62) := by
  have HH := hid h
  have HC := hid hc
  have HX := hid hX
  have x0 : w.cell? ⟨X, 0, none⟩ = some v0 := hX.cell 0
  have x1 : w.cell? ⟨X, 1, none⟩ = some v1 := hX.cell 1
  have x2 : w.cell? ⟨X, 2, none⟩ = some v2 := hX.cell 2
  have x3 : w.cell? ⟨X, 3, none⟩ = some v3 := hX.cell 3
  have xf0 := hX.free 0
  have xf1 := hX.free 1
  have xf2 := hX.free 2
  have xf3 := hX.free 3
  have hXl := hX.lt
  have n0 : w.cell? ⟨N, 0, none⟩ = some (.pointer (some ⟨g, 0, none⟩)) := hc.n.cell 0
  have k0 : w.cell? ⟨K, 0, none⟩ = some (.int .i64 k) := hc.k.cell 0
  have hne : ¬ X = w.heap.size := by omega
  clear h hc hX
  unfold lv
  go_enter Try.func78, Try.ntmps78
  go_upto_region 2 with fail
  refine wpGen ?_
  intro w1 hw1
  have hO1 : Only [X] w w1 := by rw [hw1]; exact (((((Only.refl _ w).setCell (p := ⟨X, 0, none⟩) (by simp) _).setCell (p := ⟨X, 1, none⟩) (by simp) _).setCell (p := ⟨X, 2, none⟩) (by simp) _).setCell (p := ⟨X, 3, none⟩) (by simp) _).alloc _
  have HX1 : Hid (Blk w1 X #[.int .i64 x.no, .int .i64 x.from_, .int .i64 x.to, .string x.bytes] 62) := by show Blk _ _ _ _; rw [hw1]; exact ((((HX.out.set 0 _).set 1 _).set 2 _).set 3 _).alloc _
  have HH1 := hid (HH.out.only hO1 (fun q hq hs => by rw [List.mem_singleton] at hs; subst hs; exact hXF hq))
  have n1 : w1.cell? ⟨N, 0, none⟩ = some (.pointer (some ⟨g, 0, none⟩)) := (HC.out.n.only hO1 (by simpa using fun e => hXN e.symm)).cell 0
  have k1 : w1.cell? ⟨K, 0, none⟩ = some (.int .i64 k) := (HC.out.k.only hO1 (by simpa using fun e => hXK e.symm)).cell 0
  have HO1 := hid hO1
  clear hw1 hO1 x0 x1 x2 x3 xf0 xf1 xf2 xf3 n0 k0
  go_wp2_with fail
  refine (drop_any g m F s k w1 HH1.out hk).mono ?_
  rintro e w2 ⟨rfl, ho2, h2⟩
  have HX2 := hid (HX1.out.only ho2 hXF)
  have HO2 := hid ho2
  clear ho2
  go_wp2_with fail
  go_ret
  exact ⟨rfl, (HO1.out.mono (by simp)).trans (HO2.out.mono (by simp +contextual)), h2, HX2.out⟩
set_option maxRecDepth 100000 in
set_option maxHeartbeats 1000000 in
theorem lose1_any (g m : Nat) (F : List Nat) (s : Nt) (k N K : Nat) (x : Lt) (w : World) (h : NetIs w g F m s) (hk : k < s.all.length) (hc : Caught w g F k N K) :
    Calls Try.prog 80 #[lv x, .pointer (some ⟨N, 0, none⟩), .pointer (some ⟨K, 0, none⟩)] w fun e w' => e = .returned (.bool true) ∧ Only F w w' ∧ Hid (NetIs w' g F (m + 1) (s.off k).lose1) := by
  have HC := hid hc
  have n0 : w.cell? ⟨N, 0, none⟩ = some (.pointer (some ⟨g, 0, none⟩)) := hc.n.cell 0
  have k0 : w.cell? ⟨K, 0, none⟩ = some (.int .i64 k) := hc.k.cell 0
  have hNl := hc.n.lt
  have hKl := hc.k.lt
  have HH1 : Hid (NetIs (w.alloc (.cells #[.int .i64 x.no, .int .i64 x.from_, .int .i64 x.to, .string x.bytes] 62)) g F m s) := h.later ((Below.refl _ _).alloc (Nat.le_refl _) _)
  have HM := hid h.mem
  clear hc h
  unfold lv
  go_enter Try.func80, Try.ntmps80
  go_wp2_with fail
  refine (drop_any g m F s k _ HH1.out hk).mono ?_
  rintro e w2 ⟨rfl, ho2, h2⟩
  have n2 : w2.cell? ⟨N, 0, none⟩ = some (.pointer (some ⟨g, 0, none⟩)) := ((HC.out.n.alloc _).only ho2 HC.out.hn).cell 0
  have HO2 := hid ho2
  clear ho2
  go_wp2_with fail
  refine (lose_one g m F _ w2 h2.out).mono ?_
  rintro e w3 ⟨rfl, ho3, h3⟩
  go_wp2_with fail
  go_ret
  exact ⟨rfl, (((Only.refl _ w).alloc _).trans HO2.out).trans (ho3.mono (by intro q hq; rw [List.mem_singleton] at hq; subst hq; exact HM.out)), h3⟩
set_option maxRecDepth 100000 in
set_option maxHeartbeats 1000000 in
theorem copy1_any (g m : Nat) (F : List Nat) (s s' : Nt) (N : Nat) (x : Lt) (r : Bool) (w : World) (h : NetIs w g F m s) (hm : m ≤ 100000) (hn : Blk w N #[.pointer (some ⟨g, 0, none⟩)] 48) (hr : s.sendB = r) (hs : s.send x.from_ x.to x.bytes = s') :
    Calls Try.prog 81 #[lv x, .pointer (some ⟨N, 0, none⟩)] w fun e w' => e = .returned (.bool r) ∧ NetQ g F (m + 1) s' w w' := by
  have n0 : w.cell? ⟨N, 0, none⟩ = some (.pointer (some ⟨g, 0, none⟩)) := hn.cell 0
  have hNl := hn.lt
  have HH1 : Hid (NetIs (w.alloc (.cells #[.int .i64 x.no, .int .i64 x.from_, .int .i64 x.to, .string x.bytes] 62)) g F m s) := h.later ((Below.refl _ _).alloc (Nat.le_refl _) _)
  have HR := hid hr
  have HS := hid hs
  clear hn h hr hs
  unfold lv
  go_enter Try.func81, Try.ntmps81
  go_wp2_with fail
  refine (send_any g m F s s' x.from_ x.to x.bytes r _ HH1.out hm HR.out HS.out).mono ?_
  rintro e w2 ⟨rfl, ho2, F', hm2, h2⟩
  have HO2 := hid ho2
  clear ho2
  go_wp2_with fail
  go_ret
  exact ⟨rfl, ((Only.refl _ w).alloc _).trans HO2.out, F', hm2.out.le (by simp), h2⟩
set_option maxRecDepth 100000 in
set_option maxHeartbeats 1000000 in
theorem with_take (g m : Nat) (F : List Nat) (s : Nt) (k : Nat) (X N K : Nat) (r : Bool) (R : World → Prop) (w : World) (h : NetIs w g F m s) (hk : k < s.all.length)
    (H : Calls Try.prog 78 #[lv (s.at_ k), .pointer (some ⟨X, 0, none⟩), .pointer (some ⟨N, 0, none⟩), .pointer (some ⟨K, 0, none⟩)] w (fun e w' => e = .returned (.bool r) ∧ R w')) :
    Calls Try.prog 77 #[.pointer (some ⟨g, 0, none⟩), .int .i64 k, .func (.func 78) #[] #[.pointer (some ⟨X, 0, none⟩), .pointer (some ⟨N, 0, none⟩), .pointer (some ⟨K, 0, none⟩)]] w (fun e w' => e = .returned (.bool r) ∧ R w') := by
  obtain ⟨b, cap, c0, hb, hcap, y0, y1, y2, y3⟩ := at_k h hk
  have h1 : ¬ (k : Int) < 0 := by omega
  have h2 : ¬ (s.all.length : Int) ≤ (k : Int) := by omega
  have HC := hid H
  have hlen := h.inv.len
  clear H h
  unfold lv at HC
  go_enter Try.func77, Try.ntmps77
  go_wp2_with fail
  refine HC.out.mono ?_
  rintro e w1 ⟨rfl, hr⟩
  have HR := hid hr
  clear hr HC y0 y1 y2 y3 c0
  go_wp2_with fail
  go_ret
  exact ⟨rfl, HR.out⟩
set_option maxRecDepth 100000 in
set_option maxHeartbeats 1000000 in
theorem with_lose (g m : Nat) (F : List Nat) (s : Nt) (k : Nat) (N K : Nat) (r : Bool) (R : World → Prop) (w : World) (h : NetIs w g F m s) (hk : k < s.all.length)
    (H : Calls Try.prog 80 #[lv (s.at_ k), .pointer (some ⟨N, 0, none⟩), .pointer (some ⟨K, 0, none⟩)] w (fun e w' => e = .returned (.bool r) ∧ R w')) :
    Calls Try.prog 77 #[.pointer (some ⟨g, 0, none⟩), .int .i64 k, .func (.func 80) #[] #[.pointer (some ⟨N, 0, none⟩), .pointer (some ⟨K, 0, none⟩)]] w (fun e w' => e = .returned (.bool r) ∧ R w') := by
  obtain ⟨b, cap, c0, hb, hcap, y0, y1, y2, y3⟩ := at_k h hk
  have h1 : ¬ (k : Int) < 0 := by omega
  have h2 : ¬ (s.all.length : Int) ≤ (k : Int) := by omega
  have HC := hid H
  have hlen := h.inv.len
  clear H h
  unfold lv at HC
  go_enter Try.func77, Try.ntmps77
  go_wp2_with fail
  refine HC.out.mono ?_
  rintro e w1 ⟨rfl, hr⟩
  have HR := hid hr
  clear hr HC y0 y1 y2 y3 c0
  go_wp2_with fail
  go_ret
  exact ⟨rfl, HR.out⟩
set_option maxRecDepth 100000 in
set_option maxHeartbeats 1000000 in
theorem with_copy (g m : Nat) (F : List Nat) (s : Nt) (k : Nat) (N : Nat) (r : Bool) (R : World → Prop) (w : World) (h : NetIs w g F m s) (hk : k < s.all.length)
    (H : Calls Try.prog 81 #[lv (s.at_ k), .pointer (some ⟨N, 0, none⟩)] w (fun e w' => e = .returned (.bool r) ∧ R w')) :
    Calls Try.prog 77 #[.pointer (some ⟨g, 0, none⟩), .int .i64 k, .func (.func 81) #[] #[.pointer (some ⟨N, 0, none⟩)]] w (fun e w' => e = .returned (.bool r) ∧ R w') := by
  obtain ⟨b, cap, c0, hb, hcap, y0, y1, y2, y3⟩ := at_k h hk
  have h1 : ¬ (k : Int) < 0 := by omega
  have h2 : ¬ (s.all.length : Int) ≤ (k : Int) := by omega
  have HC := hid H
  have hlen := h.inv.len
  clear H h
  unfold lv at HC
  go_enter Try.func77, Try.ntmps77
  go_wp2_with fail
  refine HC.out.mono ?_
  rintro e w1 ⟨rfl, hr⟩
  have HR := hid hr
  clear hr HC y0 y1 y2 y3 c0
  go_wp2_with fail
  go_ret
  exact ⟨rfl, HR.out⟩
set_option maxRecDepth 100000 in
set_option maxHeartbeats 1000000 in
theorem copy_any (g m : Nat) (F : List Nat) (s s' : Nt) (k : Int) (r : Bool) (w : World) (h : NetIs w g F m s) (hm : m ≤ 100000) (hr : s.copyB k = r) (hs : s.copy k = s') :
    Calls Try.prog 38 #[.pointer (some ⟨g, 0, none⟩), .int .i64 k] w fun e w' => e = .returned (.bool r) ∧ NetQ g F (m + 1) s' w w' := by
  have HH1 : Hid (NetIs (w.alloc (.cells #[.pointer (some ⟨g, 0, none⟩)] 48)) g F m s) := h.later ((Below.refl _ _).alloc (Nat.le_refl _) _)
  have HW : Hid (∀ w', NetQ g F (m + 1) s' (w.alloc (.cells #[.pointer (some ⟨g, 0, none⟩)] 48)) w' → NetQ g F (m + 1) s' w w') := by
    rintro w' ⟨ho, F', hmv, h2⟩
    exact ⟨((Only.refl _ w).alloc _).trans ho, F', hmv.out.le (by simp), h2⟩
  by_cases hk : s.has k = true
  · obtain ⟨h0, h1⟩ := (Nt.has_iff s k).1 hk
    obtain ⟨q, rfl⟩ := Int.eq_ofNat_of_zero_le h0
    have hq : q < s.all.length := by omega
    have e1 : s.copyB q = s.sendB := by unfold Nt.copyB; rw [hk]; rfl
    have e2 : s.copy q = s.send (s.at_ q).from_ (s.at_ q).to (s.at_ q).bytes := if_pos hk
    rw [e1] at hr
    rw [e2] at hs
    have HWC := hid (with_copy g m F s q w.heap.size r (NetQ g F (m + 1) s' (w.alloc (.cells #[.pointer (some ⟨g, 0, none⟩)] 48))) _ HH1.out hq (copy1_any g m F s s' w.heap.size (s.at_ q) r _ HH1.out hm (Blk.new _ _ _) hr hs))
    clear h hr hs e1 e2 hk
    go_enter Try.func38, Try.ntmps38
    go_wp2_with fail
    refine HWC.out.mono ?_
    rintro e w1 ⟨rfl, hq1⟩
    have HQ := hid hq1
    clear hq1
    go_wp2_with fail
    go_ret
    exact ⟨rfl, HW.out _ HQ.out⟩
  · have hk2 : s.has k = false := by simpa using hk
    have e1 : s.copyB k = false := by unfold Nt.copyB; rw [hk2]; rfl
    have e2 : s.copy k = s := if_neg hk
    rw [e1] at hr
    rw [e2] at hs
    subst hr hs
    have HWC := hid (with_no g m F s k (.func (.func 81) #[] #[.pointer (some ⟨w.heap.size, 0, none⟩)]) _ HH1.out hk2)
    have HF : Hid (NetQ g F (m + 1) s (w.alloc (.cells #[.pointer (some ⟨g, 0, none⟩)] 48)) (w.alloc (.cells #[.pointer (some ⟨g, 0, none⟩)] 48))) := ⟨Only.refl _ _, F, Moves.refl _ _, HH1.out.mono (by omega)⟩
    clear h e1 e2 hk hk2
    go_enter Try.func38, Try.ntmps38
    go_wp2_with fail
    refine HWC.out.mono ?_
    rintro e w1 ⟨rfl, rfl⟩
    go_wp2_with fail
    go_ret
    exact ⟨rfl, HW.out _ HF.out⟩
set_option maxRecDepth 100000 in
set_option maxHeartbeats 1000000 in
theorem lose_any (g m : Nat) (F : List Nat) (s s' : Nt) (k : Int) (w : World) (h : NetIs w g F m s) (hs : s.lose k = s') :
    Calls Try.prog 37 #[.pointer (some ⟨g, 0, none⟩), .int .i64 k] w fun e w' => e = .returned (.bool (s.has k)) ∧ NetQ g F (m + 1) s' w w' := by
  have HH1 : Hid (NetIs ((w.alloc (.cells #[.pointer (some ⟨g, 0, none⟩)] 48)).alloc (.cells #[.int .i64 k] 3)) g F m s) := h.later (by go_grown)
  have HW : Hid (∀ w', NetQ g F (m + 1) s' ((w.alloc (.cells #[.pointer (some ⟨g, 0, none⟩)] 48)).alloc (.cells #[.int .i64 k] 3)) w' → NetQ g F (m + 1) s' w w') := by
    rintro w' ⟨ho, F', hmv, h2⟩
    exact ⟨(((Only.refl _ w).alloc _).alloc _).trans ho, F', hmv.out.le (by simp; omega), h2⟩
  by_cases hk : s.has k = true
  · obtain ⟨h0, h1⟩ := (Nt.has_iff s k).1 hk
    obtain ⟨q, rfl⟩ := Int.eq_ofNat_of_zero_le h0
    have hq : q < s.all.length := by omega
    have e2 : s.lose q = (s.off q).lose1 := if_pos hk
    rw [e2] at hs
    subst hs
    have hbd := h.bd
    have hca : Caught ((w.alloc (.cells #[.pointer (some ⟨g, 0, none⟩)] 48)).alloc (.cells #[.int .i64 (q : Int)] 3)) g F q w.heap.size (w.heap.size + 1) :=
      ⟨(Blk.new _ _ _).alloc _, Blk.new' _ _ _ (by simp), fun hf => by have := (hbd _ hf).2; omega, fun hf => by have := (hbd _ hf).2; omega⟩
    have HWC := hid (with_lose g m F s q w.heap.size (w.heap.size + 1) true _ _ HH1.out hq (lose1_any g m F s q w.heap.size (w.heap.size + 1) (s.at_ q) _ HH1.out hq hca))
    rw [hk]
    clear h e2 hk hca hbd
    go_enter Try.func37, Try.ntmps37
    go_wp2_with fail
    refine HWC.out.mono ?_
    rintro e w1 ⟨rfl, hq1, hq2⟩
    have HQ := hid hq1
    clear hq1
    go_wp2_with fail
    go_ret
    exact ⟨rfl, HW.out _ ⟨HQ.out, F, Moves.refl _ _, hq2⟩⟩
  · have hk2 : s.has k = false := by simpa using hk
    have e2 : s.lose k = s := if_neg hk
    rw [e2] at hs
    subst hs
    have HWC := hid (with_no g m F s k (.func (.func 80) #[] #[.pointer (some ⟨w.heap.size, 0, none⟩), .pointer (some ⟨w.heap.size + 1, 0, none⟩)]) _ HH1.out hk2)
    have HF : Hid (NetQ g F (m + 1) s ((w.alloc (.cells #[.pointer (some ⟨g, 0, none⟩)] 48)).alloc (.cells #[.int .i64 k] 3)) ((w.alloc (.cells #[.pointer (some ⟨g, 0, none⟩)] 48)).alloc (.cells #[.int .i64 k] 3))) := ⟨Only.refl _ _, F, Moves.refl _ _, HH1.out.mono (by omega)⟩
    rw [hk2]
    clear h e2 hk hk2
    go_enter Try.func37, Try.ntmps37
    go_wp2_with fail
    refine HWC.out.mono ?_
    rintro e w1 ⟨rfl, rfl⟩
    go_wp2_with fail
    go_ret
    exact ⟨rfl, HW.out _ HF.out⟩
/-- What Take gives. -/
def TakeQ (g : Nat) (F : List Nat) (m : Nat) (s' : Nt) (x : Lt) (r : Bool) (w : World) (e : Ending) (w' : World) : Prop :=
  e = .returned (.tuple #[.agg #[.int .i64 x.no, .int .i64 x.from_, .int .i64 x.to, .string x.bytes], .bool r]) ∧ NetQ g F m s' w w'
set_option maxRecDepth 100000 in
set_option maxHeartbeats 1000000 in
theorem take_any (g m : Nat) (F : List Nat) (s s' : Nt) (k : Int) (x : Lt) (w : World) (h : NetIs w g F m s) (hs : s.take k = s') (hx : s.takeL k = x) :
    Calls Try.prog 36 #[.pointer (some ⟨g, 0, none⟩), .int .i64 k] w (TakeQ g F (m + 1) s' x (s.has k) w) := by
  have hgl := (h.bd g h.mem).2
  have HH := hid h
  have HBD := hid h.bd
  clear h
  by_cases hk : s.has k = true
  · obtain ⟨h0, h1⟩ := (Nt.has_iff s k).1 hk
    obtain ⟨q, rfl⟩ := Int.eq_ofNat_of_zero_le h0
    have hq : q < s.all.length := by omega
    have e2 : s.take q = s.off q := if_pos hk
    have e3 : s.takeL q = s.at_ q := if_pos hk
    rw [e2] at hs
    rw [e3] at hx
    subst hs
    rw [hk]
    have HX := hid hx
    clear hx e2 e3 hk
    go_enter Try.func36, Try.ntmps36
    go_upto_region 2 with fail
    refine wpGen ?_
    intro w1 hw1
    have hb1 : Below w.heap.size w w1 := by rw [hw1]; go_grown
    have hn1 : Blk w1 w.heap.size #[.pointer (some ⟨g, 0, none⟩)] 48 := by rw [hw1]; exact (((Blk.new _ _ _).alloc _).alloc _).alloc _
    have hk1 : Blk w1 (w.heap.size + 1) #[.int .i64 q] 3 := by rw [hw1]; exact ((Blk.new' _ _ _ (by simp)).alloc _).alloc _
    have hr1 : Blk w1 (w.heap.size + 2) #[.int .i64 0, .int .i64 0, .int .i64 0, .string ByteArray.empty] 62 := by rw [hw1]; exact (Blk.new' _ _ _ (by simp)).alloc _
    have hx1 : Blk w1 (w.heap.size + 3) #[.int .i64 0, .int .i64 0, .int .i64 0, .string ByteArray.empty] 62 := by rw [hw1]; exact Blk.new' _ _ _ (by simp)
    clear hw1
    have n0 : w1.cell? ⟨w.heap.size, 0, none⟩ = some (.pointer (some ⟨g, 0, none⟩)) := hn1.cell 0
    have k0 : w1.cell? ⟨w.heap.size + 1, 0, none⟩ = some (.int .i64 q) := hk1.cell 0
    have hnl : w.heap.size + 3 < w1.heap.size := hx1.lt
    have hca : Caught w1 g F q w.heap.size (w.heap.size + 1) := ⟨hn1, hk1, fun hf => by have := (HBD.out _ hf).2; omega, fun hf => by have := (HBD.out _ hf).2; omega⟩
    have HH1 := hid (HH.out.later hb1)
    have HWC := hid (with_take g m F s q (w.heap.size + 3) w.heap.size (w.heap.size + 1) true _ w1 HH1.out hq (take1_any g m F s q (w.heap.size + 3) w.heap.size (w.heap.size + 1) (s.at_ q) _ _ _ _ w1 HH1.out hq hca hx1 (fun hf => by have := (HBD.out _ hf).2; omega) (by omega) (by omega)))
    have HR1 := hid hr1
    have HB1 := hid hb1
    clear hca hn1 hk1 hr1 hx1 hb1
    go_wp2_with fail
    refine HWC.out.mono ?_
    rintro e w2 ⟨rfl, ho2, h2, hx2⟩
    rw [HX.out] at hx2
    have HR2 := hid (HR1.out.only ho2 (by
      intro hf
      rcases List.mem_cons.1 hf with hf | hf
      · omega
      · have := (HBD.out _ hf).2; omega))
    have HO2 := hid ho2
    have hsz := ho2.size
    have z0 : w2.cell? ⟨w.heap.size + 3, 0, none⟩ = some (.int .i64 x.no) := hx2.out.cell 0
    have z1 : w2.cell? ⟨w.heap.size + 3, 1, none⟩ = some (.int .i64 x.from_) := hx2.out.cell 1
    have z2 : w2.cell? ⟨w.heap.size + 3, 2, none⟩ = some (.int .i64 x.to) := hx2.out.cell 2
    have z3 : w2.cell? ⟨w.heap.size + 3, 3, none⟩ = some (.string x.bytes) := hx2.out.cell 3
    have t0 : w2.cell? ⟨w.heap.size + 2, 0, none⟩ = some (.int .i64 0) := HR2.out.cell 0
    have t1 : w2.cell? ⟨w.heap.size + 2, 1, none⟩ = some (.int .i64 0) := HR2.out.cell 1
    have t2 : w2.cell? ⟨w.heap.size + 2, 2, none⟩ = some (.int .i64 0) := HR2.out.cell 2
    have t3 : w2.cell? ⟨w.heap.size + 2, 3, none⟩ = some (.string ByteArray.empty) := HR2.out.cell 3
    have tf0 := HR2.out.free 0
    have tf1 := HR2.out.free 1
    have tf2 := HR2.out.free 2
    have tf3 := HR2.out.free 3
    clear ho2 n0 k0
    go_wp2_with fail
    refine bodyPost_ret (by simp [results, Try.results36, go_sem, t0, t1, t2, t3]; try rfl) rfl ?_
    have hO3 : ∀ a b c d, Only [w.heap.size + 2] w2 ((((w2.setCell ⟨w.heap.size + 2, 0, none⟩ a).setCell ⟨w.heap.size + 2, 1, none⟩ b).setCell ⟨w.heap.size + 2, 2, none⟩ c).setCell ⟨w.heap.size + 2, 3, none⟩ d) := fun a b c d => ((((Only.refl _ _).setCell (by simp) _).setCell (by simp) _).setCell (by simp) _).setCell (by simp) _
    refine ⟨rfl, ?_, F, Moves.refl _ _, ?_⟩
    · refine ⟨((hO3 _ _ _ _).os.trans HO2.out.os).trans HB1.out.os, ((hO3 _ _ _ _).tape.trans HO2.out.tape).trans HB1.out.tape, ((hO3 _ _ _ _).output.trans HO2.out.output).trans HB1.out.output, Nat.le_trans (by omega) (hO3 _ _ _ _).size, fun b hb hbF => ?_⟩
      rw [(hO3 _ _ _ _).block b (by omega) (by simp; omega), HO2.out.block b (by omega) (by simp; exact ⟨by omega, hbF⟩), HB1.out.block b hb]
    · exact (h2.out.only (hO3 _ _ _ _) (fun b hb hs => by have := (HBD.out _ hb).2; simp at hs; omega)).mono (by omega)
  · have hk2 : s.has k = false := by simpa using hk
    have e2 : s.take k = s := if_neg hk
    have e3 : s.takeL k = Lt.zero := if_neg hk
    rw [e2] at hs
    rw [e3] at hx
    subst hs hx
    rw [hk2]
    have HK := hid hk2
    clear e2 e3 hk hk2
    go_enter Try.func36, Try.ntmps36
    go_upto_region 2 with fail
    refine wpGen ?_
    intro w1 hw1
    have hb1 : Below w.heap.size w w1 := by rw [hw1]; go_grown
    have hn1 : Blk w1 w.heap.size #[.pointer (some ⟨g, 0, none⟩)] 48 := by rw [hw1]; exact (((Blk.new _ _ _).alloc _).alloc _).alloc _
    have hk1 : Blk w1 (w.heap.size + 1) #[.int .i64 k] 3 := by rw [hw1]; exact ((Blk.new' _ _ _ (by simp)).alloc _).alloc _
    have hr1 : Blk w1 (w.heap.size + 2) #[.int .i64 0, .int .i64 0, .int .i64 0, .string ByteArray.empty] 62 := by rw [hw1]; exact (Blk.new' _ _ _ (by simp)).alloc _
    have hx1 : Blk w1 (w.heap.size + 3) #[.int .i64 0, .int .i64 0, .int .i64 0, .string ByteArray.empty] 62 := by rw [hw1]; exact Blk.new' _ _ _ (by simp)
    clear hw1
    have n0 : w1.cell? ⟨w.heap.size, 0, none⟩ = some (.pointer (some ⟨g, 0, none⟩)) := hn1.cell 0
    have k0 : w1.cell? ⟨w.heap.size + 1, 0, none⟩ = some (.int .i64 k) := hk1.cell 0
    have z0 : w1.cell? ⟨w.heap.size + 3, 0, none⟩ = some (.int .i64 0) := hx1.cell 0
    have z1 : w1.cell? ⟨w.heap.size + 3, 1, none⟩ = some (.int .i64 0) := hx1.cell 1
    have z2 : w1.cell? ⟨w.heap.size + 3, 2, none⟩ = some (.int .i64 0) := hx1.cell 2
    have z3 : w1.cell? ⟨w.heap.size + 3, 3, none⟩ = some (.string ByteArray.empty) := hx1.cell 3
    have t0 : w1.cell? ⟨w.heap.size + 2, 0, none⟩ = some (.int .i64 0) := hr1.cell 0
    have t1 : w1.cell? ⟨w.heap.size + 2, 1, none⟩ = some (.int .i64 0) := hr1.cell 1
    have t2 : w1.cell? ⟨w.heap.size + 2, 2, none⟩ = some (.int .i64 0) := hr1.cell 2
    have t3 : w1.cell? ⟨w.heap.size + 2, 3, none⟩ = some (.string ByteArray.empty) := hr1.cell 3
    have tf0 := hr1.free 0
    have tf1 := hr1.free 1
    have tf2 := hr1.free 2
    have tf3 := hr1.free 3
    have hnl : w.heap.size + 3 < w1.heap.size := hx1.lt
    have HH1 := hid (HH.out.later hb1)
    have HWC := hid (with_no g m F s k (.func (.func 78) #[] #[.pointer (some ⟨w.heap.size + 3, 0, none⟩), .pointer (some ⟨w.heap.size, 0, none⟩), .pointer (some ⟨w.heap.size + 1, 0, none⟩)]) w1 HH1.out HK.out)
    have HB1 := hid hb1
    clear hn1 hk1 hr1 hx1 hb1
    go_wp2_with fail
    refine HWC.out.mono ?_
    rintro e w2 ⟨rfl, rfl⟩
    go_wp2_with fail
    refine bodyPost_ret (by simp [results, Try.results36, go_sem, t0, t1, t2, t3]; try rfl) rfl ?_
    have hO3 : ∀ a b c d, Only [w.heap.size + 2] w1 ((((w1.setCell ⟨w.heap.size + 2, 0, none⟩ a).setCell ⟨w.heap.size + 2, 1, none⟩ b).setCell ⟨w.heap.size + 2, 2, none⟩ c).setCell ⟨w.heap.size + 2, 3, none⟩ d) := fun a b c d => ((((Only.refl _ _).setCell (by simp) _).setCell (by simp) _).setCell (by simp) _).setCell (by simp) _
    have hBf := HB1.out.trans ((hO3 (.int .i64 0) (.int .i64 0) (.int .i64 0) (.string ByteArray.empty)).below (B := w.heap.size) (by omega) (by simp))
    exact ⟨rfl, Only.of_below hBf, F, Moves.refl _ _, (HH.out.later hBf).mono (by omega)⟩
end C28
end Go.Proofs.Ythmopkaecbebpaa
