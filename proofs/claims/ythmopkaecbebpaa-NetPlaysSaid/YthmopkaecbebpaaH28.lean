/- Walks of layer 28 (net): a net of one's own; what a nil one answers; what must come of fixed calls; no condition. -/
import Derived.Test.YthmopkaecbebpaaE28
namespace Go.Proofs.Ythmopkaecbebpaa
open Go.RowKit Go.Peri
namespace C28
theorem nil_lose (k : Int) (w : World) : Calls Try.prog 37 #[.pointer none, .int .i64 k] w fun e w' => e = .returned (.bool false) ∧ Below w.heap.size w w' := by
  have HB : Hid (Below w.heap.size w ((w.alloc (.cells #[.pointer none] 48)).alloc (.cells #[.int .i64 k] 3))) := by show Below _ _ _; go_grown
  go_enter Try.func37, Try.ntmps37
  go_wp2_with fail
  refine (with_nil _ _ _).mono ?_
  rintro e w' ⟨rfl, rfl⟩
  go_wp2_with fail
  go_ret
  exact ⟨rfl, HB.out⟩
theorem nil_copy (k : Int) (w : World) : Calls Try.prog 38 #[.pointer none, .int .i64 k] w fun e w' => e = .returned (.bool false) ∧ Below w.heap.size w w' := by
  have HB : Hid (Below w.heap.size w (w.alloc (.cells #[.pointer none] 48))) := by show Below _ _ _; go_grown
  go_enter Try.func38, Try.ntmps38
  go_wp2_with fail
  refine (with_nil _ _ _).mono ?_
  rintro e w' ⟨rfl, rfl⟩
  go_wp2_with fail
  go_ret
  exact ⟨rfl, HB.out⟩
theorem nil_take (k : Int) (w : World) : Calls Try.prog 36 #[.pointer none, .int .i64 k] w fun e w' => e = .returned (.tuple #[.agg #[.int .i64 0, .int .i64 0, .int .i64 0, .string ByteArray.empty], .bool false]) ∧ Below w.heap.size w w' := by
  go_enter Try.func36, Try.ntmps36
  go_upto_region 2 with fail
  refine wpGen ?_
  intro w1 hw1
  have hb1 : Below w.heap.size w w1 := by rw [hw1]; go_grown
  have hn1 : Blk w1 w.heap.size #[.pointer none] 48 := by rw [hw1]; exact (((Blk.new _ _ _).alloc _).alloc _).alloc _
  have hk1 : Blk w1 (w.heap.size + 1) #[.int .i64 k] 3 := by rw [hw1]; exact ((Blk.new' _ _ _ (by simp)).alloc _).alloc _
  have hr1 : Blk w1 (w.heap.size + 2) #[.int .i64 0, .int .i64 0, .int .i64 0, .string ByteArray.empty] 62 := by rw [hw1]; exact (Blk.new' _ _ _ (by simp)).alloc _
  have hx1 : Blk w1 (w.heap.size + 3) #[.int .i64 0, .int .i64 0, .int .i64 0, .string ByteArray.empty] 62 := by rw [hw1]; exact Blk.new' _ _ _ (by simp)
  clear hw1
  have n0 : w1.cell? ⟨w.heap.size, 0, none⟩ = some (.pointer none) := hn1.cell 0
  have k0 : w1.cell? ⟨w.heap.size + 1, 0, none⟩ = some (.int .i64 k) := hk1.cell 0
  have z0 : w1.cell? ⟨w.heap.size + 3, 0, none⟩ = some (.int .i64 0) := hx1.cell 0
  have z1 : w1.cell? ⟨w.heap.size + 3, 1, none⟩ = some (.int .i64 0) := hx1.cell 1
  have z2 : w1.cell? ⟨w.heap.size + 3, 2, none⟩ = some (.int .i64 0) := hx1.cell 2
  have z3 : w1.cell? ⟨w.heap.size + 3, 3, none⟩ = some (.string ByteArray.empty) := hx1.cell 3
  have t0 : w1.cell? ⟨w.heap.size + 2, 0, none⟩ = some (.int .i64 0) := hr1.cell 0
  have t1 : w1.cell? ⟨w.heap.size + 2, 1, none⟩ = some (.int .i64 0) := hr1.cell 1
  have t2 : w1.cell? ⟨w.heap.size + 2, 2, none⟩ = some (.int .i64 0) := hr1.cell 2
  have t3 : w1.cell? ⟨w.heap.size + 2, 3, none⟩ = some (.string ByteArray.empty) := hr1.cell 3
  have tf0 := hr1.free 0
  have tf1 := hr1.free 1
  have tf2 := hr1.free 2
  have tf3 := hr1.free 3
  have hnl : w.heap.size + 3 < w1.heap.size := hx1.lt
  have HB1 := hid hb1
  clear hn1 hk1 hr1 hx1 hb1
  go_wp2_with fail
  refine (with_nil _ _ _).mono ?_
  rintro e w2 ⟨rfl, rfl⟩
  go_wp2_with fail
  refine bodyPost_ret (by simp [results, Try.results36, go_sem, t0, t1, t2, t3]; try rfl) rfl ?_
  have FIN : ∀ wf, Only [w.heap.size + 2] w1 wf → Below w.heap.size w wf := fun wf ho => HB1.out.trans (ho.below (by omega) (by simp))
  exact ⟨rfl, FIN _ (by repeat' (first | (with_reducible exact Only.refl _ _) | (with_reducible refine Only.drew ?_) | (with_reducible refine Only.setCell ?_ (by simp) _)))⟩
/-- A net of one's own. -/
structure Own (W w : World) (m : Nat) (s : Nt) : Prop where
  bel : Below W.heap.size W w
  is : ∃ F, NetIs w W.heap.size F m s
theorem Own.later {W w w' : World} {m : Nat} {s : Nt} (h : Own W w m s) (hb : Below w.heap.size w w') : Own W w' m s := by
  obtain ⟨F, hF⟩ := h.is
  exact ⟨h.bel.trans (hb.mono h.bel.size), F, hF.later hb⟩
theorem Own.inv {W w : World} {m : Nat} {s : Nt} (h : Own W w m s) : Nt.Inv s m := by
  obtain ⟨F, hF⟩ := h.is
  exact hF.inv
theorem Own.of {W w w' : World} {F : List Nat} {m m' : Nat} {s s' : Nt} (hb : Below W.heap.size W w) (h : NetIs w W.heap.size F m s) (hq : NetQ W.heap.size F m' s' w w') : Own W w' m' s' := by
  obtain ⟨ho, F', _, h'⟩ := hq
  exact ⟨hb.trans (h.below ho), F', h'.out⟩
theorem own_new (W : World) : Calls Try.prog 30 #[] W fun e w' => e = .returned (.pointer (some ⟨W.heap.size, 0, none⟩)) ∧ Hid (Own W w' 0 Nt.new) := by
  refine (new_any W).mono ?_
  rintro e w' ⟨rfl, hb, _, h⟩
  exact ⟨rfl, hb, _, h.out⟩
theorem own_send {W : World} {m : Nat} {s : Nt} (f t : Int) (b : ByteArray) (r : Bool) (s' : Nt) (w : World) (h : Own W w m s) (hm : m ≤ 100000) (hr : s.sendB = r) (hs : s.send f t b = s') :
    Calls Try.prog 35 #[.pointer (some ⟨W.heap.size, 0, none⟩), .int .i64 f, .int .i64 t, .string b] w fun e w' => e = .returned (.bool r) ∧ Hid (Own W w' (m + 1) s') := by
  obtain ⟨F, hF⟩ := h.is
  refine (send_any _ m F s s' f t b r w hF hm hr hs).mono ?_
  rintro e w' ⟨rfl, hq⟩
  exact ⟨rfl, Own.of h.bel hF hq⟩
theorem own_take {W : World} {m : Nat} {s : Nt} (k : Int) (s' : Nt) (x : Lt) (r : Bool) (w : World) (h : Own W w m s) (hr : s.has k = r) (hs : s.take k = s') (hx : s.takeL k = x) :
    Calls Try.prog 36 #[.pointer (some ⟨W.heap.size, 0, none⟩), .int .i64 k] w fun e w' => e = .returned (.tuple #[.agg #[.int .i64 x.no, .int .i64 x.from_, .int .i64 x.to, .string x.bytes], .bool r]) ∧ Hid (Own W w' (m + 1) s') := by
  subst hr
  obtain ⟨F, hF⟩ := h.is
  refine (take_any _ m F s s' k x w hF hs hx).mono ?_
  rintro e w' ⟨rfl, hq⟩
  exact ⟨rfl, Own.of h.bel hF hq⟩
theorem own_lose {W : World} {m : Nat} {s : Nt} (k : Int) (s' : Nt) (r : Bool) (w : World) (h : Own W w m s) (hr : s.has k = r) (hs : s.lose k = s') :
    Calls Try.prog 37 #[.pointer (some ⟨W.heap.size, 0, none⟩), .int .i64 k] w fun e w' => e = .returned (.bool r) ∧ Hid (Own W w' (m + 1) s') := by
  subst hr
  obtain ⟨F, hF⟩ := h.is
  refine (lose_any _ m F s s' k w hF hs).mono ?_
  rintro e w' ⟨rfl, hq⟩
  exact ⟨rfl, Own.of h.bel hF hq⟩
theorem own_copy {W : World} {m : Nat} {s : Nt} (k : Int) (s' : Nt) (r : Bool) (w : World) (h : Own W w m s) (hm : m ≤ 100000) (hr : s.copyB k = r) (hs : s.copy k = s') :
    Calls Try.prog 38 #[.pointer (some ⟨W.heap.size, 0, none⟩), .int .i64 k] w fun e w' => e = .returned (.bool r) ∧ Hid (Own W w' (m + 1) s') := by
  obtain ⟨F, hF⟩ := h.is
  refine (copy_any _ m F s s' k r w hF hm hr hs).mono ?_
  rintro e w' ⟨rfl, hq⟩
  exact ⟨rfl, Own.of h.bel hF hq⟩
theorem own_lost {W : World} {m : Nat} {s : Nt} (w : World) (h : Own W w m s) : Calls Try.prog 32 #[.pointer (some ⟨W.heap.size, 0, none⟩)] w fun e w' => e = .returned (.int .i64 s.lost) ∧ w = w' := by
  obtain ⟨F, hF⟩ := h.is
  exact lost_any _ m F s w hF
/-- A net of one's own, and a list of letters beside it. -/
def Beside (W w : World) (m : Nat) (s : Nt) (v : Value) (d : List Lt) : Prop :=
  Below W.heap.size W w ∧ ∃ F, NetIs w W.heap.size F m s ∧ RowsOf (fun b => b < w.heap.size ∧ b ∉ F) Lt.enc 4 w v d
theorem Beside.own {W w : World} {m : Nat} {s : Nt} {v : Value} {d : List Lt} (h : Beside W w m s v d) : Own W w m s := by
  obtain ⟨h1, F, h2, _⟩ := h
  exact ⟨h1, F, h2⟩
theorem Beside.rows {W w : World} {m : Nat} {s : Nt} {v : Value} {d : List Lt} (h : Beside W w m s v d) : RowsOf (fun b => b < w.heap.size) Lt.enc 4 w v d := by
  obtain ⟨h1, F, h2, h3⟩ := h
  exact h3.imp (fun b hb => hb.1)
/-- What All gives. -/
def AllQ (W : World) (m : Nat) (s : Nt) (e : Ending) (w' : World) : Prop :=
  ∃ a cap, e = .returned (.slice a s.all.length cap) ∧ Hid (Beside W w' m s (.slice a s.all.length cap) s.all)
theorem own_all {W : World} {m : Nat} {s : Nt} (w : World) (h : Own W w m s) : Calls Try.prog 34 #[.pointer (some ⟨W.heap.size, 0, none⟩)] w (AllQ W m s) := by
  obtain ⟨F, hF⟩ := h.is
  refine (all_any _ m F s w hF).mono ?_
  rintro e w' ⟨a, cap, rfl, hb, hr⟩
  exact ⟨a, cap, rfl, h.bel.trans (hb.mono h.bel.size), F, hF.later hb, hr.out.imp (fun b hb2 => ⟨hb2.2, fun hf => by have := (hF.bd b hf).2; omega⟩)⟩
theorem beside_take {W : World} {m : Nat} {s : Nt} (k : Int) (s' : Nt) (x : Lt) (r : Bool) (v : Value) (d : List Lt) (w : World) (h : Beside W w m s v d) (hr : s.has k = r) (hs : s.take k = s') (hx : s.takeL k = x) :
    Calls Try.prog 36 #[.pointer (some ⟨W.heap.size, 0, none⟩), .int .i64 k] w fun e w' => e = .returned (.tuple #[.agg #[.int .i64 x.no, .int .i64 x.from_, .int .i64 x.to, .string x.bytes], .bool r]) ∧ Hid (Beside W w' (m + 1) s' v d) := by
  subst hr
  obtain ⟨hb, F, hF, hv⟩ := h
  refine (take_any _ m F s s' k x w hF hs hx).mono ?_
  rintro e w' ⟨rfl, ho, F', hm, h'⟩
  refine ⟨rfl, hb.trans (hF.below ho), F', h'.out, (hv.only ho (fun b hb => hb)).imp (fun b hb => ⟨Nat.lt_of_lt_of_le hb.1 ho.size, fun hf => ?_⟩)⟩
  rcases hm.out b hf with h1 | h1
  · exact hb.2 h1
  · have := hb.1; omega
theorem Beside.later {W w w' : World} {m : Nat} {s : Nt} {v : Value} {d : List Lt} (h : Beside W w m s v d) (hb : Below w.heap.size w w') : Beside W w' m s v d := by
  obtain ⟨h1, F, h2, h3⟩ := h
  exact ⟨h1.trans (hb.mono h1.size), F, h2.later hb, (h3.below hb (fun b hb => hb.1)).imp (fun b hq => ⟨Nat.lt_of_lt_of_le hq.1 hb.size, hq.2⟩)⟩
theorem Beside.step {W w w' : World} {F : List Nat} {m m' : Nat} {s s' : Nt} {v : Value} {d : List Lt} (hb : Below W.heap.size W w) (hF : NetIs w W.heap.size F m s) (hv : RowsOf (fun b => b < w.heap.size ∧ b ∉ F) Lt.enc 4 w v d) (hq : NetQ W.heap.size F m' s' w w') : Beside W w' m' s' v d := by
  obtain ⟨ho, F', hm, h'⟩ := hq
  refine ⟨hb.trans (hF.below ho), F', h'.out, (hv.only ho (fun b hb => hb)).imp (fun b hb => ⟨Nat.lt_of_lt_of_le hb.1 ho.size, fun hf => ?_⟩)⟩
  rcases hm.out b hf with h1 | h1
  · exact hb.2 h1
  · have := hb.1; omega
theorem beside_lose {W : World} {m : Nat} {s : Nt} (k : Int) (s' : Nt) (r : Bool) (v : Value) (d : List Lt) (w : World) (h : Beside W w m s v d) (hr : s.has k = r) (hs : s.lose k = s') :
    Calls Try.prog 37 #[.pointer (some ⟨W.heap.size, 0, none⟩), .int .i64 k] w fun e w' => e = .returned (.bool r) ∧ Hid (Beside W w' (m + 1) s' v d) := by
  subst hr
  obtain ⟨hb, F, hF, hv⟩ := h
  refine (lose_any _ m F s s' k w hF hs).mono ?_
  rintro e w' ⟨rfl, hq⟩
  exact ⟨rfl, Beside.step hb hF hv hq⟩
theorem beside_copy {W : World} {m : Nat} {s : Nt} (k : Int) (s' : Nt) (r : Bool) (v : Value) (d : List Lt) (w : World) (h : Beside W w m s v d) (hm : m ≤ 100000) (hr : s.copyB k = r) (hs : s.copy k = s') :
    Calls Try.prog 38 #[.pointer (some ⟨W.heap.size, 0, none⟩), .int .i64 k] w fun e w' => e = .returned (.bool r) ∧ Hid (Beside W w' (m + 1) s' v d) := by
  obtain ⟨hb, F, hF, hv⟩ := h
  refine (copy_any _ m F s s' k r w hF hm hr hs).mono ?_
  rintro e w' ⟨rfl, hq⟩
  exact ⟨rfl, Beside.step hb hF hv hq⟩
def la : Lt := ⟨0, 1, -1, ⟨#[97]⟩⟩
def lb : Lt := ⟨1, 2, -1, ⟨#[98]⟩⟩
def lc : Lt := ⟨2, 3, -1, ⟨#[99]⟩⟩
def ld : Lt := ⟨3, 1, -1, ⟨#[97]⟩⟩
set_option maxRecDepth 100000 in
set_option maxHeartbeats 2000000 in
theorem known_any (W : World) : Calls Try.prog 29 #[] W fun e w' => e = .returned (.bool true) ∧ Below W.heap.size W w' := by
  have hee := eqLt lb lb
  rw [decide_eq_true rfl] at hee
  simp only [lb] at hee
  go_enter Try.func29, Try.ntmps29
  go_wp2_with fail
  refine (own_new W).mono ?_
  rintro e w1 ⟨rfl, H1⟩
  go_wp2_with fail
  refine (own_send 1 (-1) ⟨#[97]⟩ true ⟨[la], 1, 0⟩ w1 H1.out (by omega) rfl rfl).mono ?_
  rintro e w2 ⟨rfl, H2⟩
  go_wp2_with fail
  refine (own_send 2 (-1) ⟨#[98]⟩ true ⟨[la, lb], 2, 0⟩ w2 H2.out (by omega) rfl rfl).mono ?_
  rintro e w3 ⟨rfl, H3⟩
  go_wp2_with fail
  refine (own_send 3 (-1) ⟨#[99]⟩ true ⟨[la, lb, lc], 3, 0⟩ w3 H3.out (by omega) rfl rfl).mono ?_
  rintro e w4 ⟨rfl, H4⟩
  go_wp2_with fail
  refine (own_take 1 ⟨[la, lc], 3, 0⟩ lb true w4 H4.out rfl rfl rfl).mono ?_
  rintro e w5 ⟨rfl, H5⟩
  go_upto_region 6 with fail
  refine wpGen ?_
  intro w6 hw6
  obtain ⟨gx, hgx⟩ : ∃ g, g = w5.heap.size := ⟨_, rfl⟩
  rw [← hgx]
  have HX6 : Hid (Blk w6 gx #[.int .i64 1, .int .i64 2, .int .i64 (-1), .string ⟨#[98]⟩] 62) := by show Blk _ _ _ _; rw [hw6, hgx]; exact Blk.new _ _ _
  have H6 : Hid (Own W w6 4 ⟨[la, lc], 3, 0⟩) := by show Own _ _ _ _; rw [hw6]; exact H5.out.later (by go_grown)
  have B6 : Hid (Beside W w6 4 ⟨[la, lc], 3, 0⟩ (.slice (some ⟨gx, 0, none⟩) 1 1) [lb]) := by
    obtain ⟨hb, F, hF⟩ := H6.out
    refine ⟨hb, F, hF, (rows_of_blk (enc := Lt.enc) (k := 4) Lt.enc_length (l := [lb]) HX6.out (by simp [maxLen])).imp (fun b hb => ?_)⟩
    subst hb
    refine ⟨HX6.out.lt, fun hf => ?_⟩
    obtain ⟨hb5, F5, hF5⟩ := H5.out
    have h6 : NetIs w6 W.heap.size F5 4 ⟨[la, lc], 3, 0⟩ := by rw [hw6]; exact hF5.later (by go_grown)
    obtain ⟨v1, e1, p1⟩ := hF
    obtain ⟨v2, e2, p2⟩ := h6
    have ev : v1 = v2 := by
      have c1 := p1.blk.cell 0
      rw [p2.blk.cell 0] at c1
      injection c1 with c1
      exact c1.symm
    rw [e1, ev, ← e2] at hf
    have := (hF5.bd _ hf).2
    omega
  clear hw6 hgx HX6 H6 H5 H4 H3 H2 H1
  go_wp2_with fail
  refine (beside_copy 0 ⟨[la, lc, ld], 4, 0⟩ true _ _ w6 B6.out (by omega) rfl rfl).mono ?_
  rintro e w7 ⟨rfl, B7⟩
  go_wp2_with fail
  refine (beside_lose 0 ⟨[lc, ld], 4, 1⟩ true _ _ w7 B7.out rfl rfl).mono ?_
  rintro e w8 ⟨rfl, B8⟩
  go_wp2_with fail
  refine (nil_take 0 _).mono ?_
  rintro e w9 ⟨rfl, hb9⟩
  have B9 := hid (B8.out.later hb9)
  clear hb9 B6 B7 B8
  have hrow := B9.out.rows
  obtain ⟨_, _, e9, _, _, _, hc9⟩ := hrow
  cases e9
  obtain ⟨b9, off9, e9, hb9, hc9⟩ := hc9.resolve_left (by simp)
  cases e9
  obtain ⟨c0, c1, c2, c3⟩ := Lt.cells (hc9 0 (by simp))
  simp only [Nat.zero_mul, Nat.add_zero, Nat.zero_add, lb, List.getElem_cons_zero] at c0 c1 c2 c3
  have hgl := hb9
  have hne : ¬ gx = w9.heap.size := by omega
  clear hc9
  have B10 : Hid (Own W (w9.alloc (.cells #[.int .i64 0, .int .i64 0, .int .i64 0, .string ByteArray.empty] 62)) 6 ⟨[lc, ld], 4, 1⟩) := B9.out.own.later (by go_grown)
  go_wp2_with fail
  refine (own_all _ B10.out).mono ?_
  rintro e w11 ⟨a11, cap11, rfl, B11⟩
  clear c0 c1 c2 c3 hgl hne hb9
  go_wp2_with fail
  have B12 : Hid (Own W (w11.alloc (.cells #[.int .i64 2, .int .i64 3, .int .i64 (-1), .string ⟨#[99]⟩, .int .i64 3, .int .i64 1, .int .i64 (-1), .string ⟨#[97]⟩] 62)) 6 ⟨[lc, ld], 4, 1⟩) := B11.out.own.later (by go_grown)
  refine (same_any _ _ [lc, ld] [lc, ld] true _ (B11.out.rows.below (by go_grown) (fun b h => h)) (fun b h => by simp; omega) (rows_of_blk (enc := Lt.enc) (k := 4) Lt.enc_length (l := [lc, ld]) (Blk.new w11 #[.int .i64 2, .int .i64 3, .int .i64 (-1), .string ⟨#[99]⟩, .int .i64 3, .int .i64 1, .int .i64 (-1), .string ⟨#[97]⟩] 62) (by simp [maxLen])) (fun b h => by subst h; simp) (by simp) (by simp) (by simp)).mono ?_
  rintro e w13 ⟨rfl, hb13⟩
  have B13 := hid (B12.out.later hb13)
  clear hb13 B12 B11 B10 B9
  go_wp2_with fail
  refine (own_lost _ B13.out).mono ?_
  rintro e w' ⟨rfl, rfl⟩
  go_wp2_with fail
  refine (nil_send _ _ _ _).mono ?_
  rintro e w' ⟨rfl, rfl⟩
  go_wp2_with fail
  refine (nil_lose _ _).mono ?_
  rintro e w14 ⟨rfl, hb14⟩
  have B14 := hid (B13.out.later hb14)
  clear hb14
  go_wp2_with fail
  refine (nil_copy _ _).mono ?_
  rintro e w15 ⟨rfl, hb15⟩
  have B15 := hid (B14.out.later hb15)
  clear hb15
  go_wp2_with (first
    | (go_at_call 34; refine (nil_all _).mono ?_; rintro e w' ⟨rfl, rfl⟩)
    | (go_at_call 32; refine (nil_lost _).mono ?_; rintro e w' ⟨rfl, rfl⟩))
  go_ret
  exact ⟨rfl, B15.out.bel⟩
end C28
end Go.Proofs.Ythmopkaecbebpaa
