/- Walks of layer 22 (wheel): what a nil one answers; what must come of fixed calls; no condition. -/
import Derived.Test.YthmopkaecbebpaaG22
namespace Go.Proofs.Ythmopkaecbebpaa
open Go.RowKit Go.Peri
namespace C22
theorem set_v (g n : Nat) (F : List Nat) (l l' : List Du) (id t e : Int) (w : World) (h : WhIs w g F n l) (hn : n ≤ 1000000) (he : Wh.setE l t = e) (hl : Wh.setL n l id t = l') :
    Calls Try.prog 23 #[.pointer (some ⟨g, 0, none⟩), .int .i64 id, .int .i64 t] w fun x w' => x = .returned (.int .i64 e) ∧ Only F w w' ∧ ∃ F', Hid (Moves w.heap.size F F') ∧ Hid (WhIs w' g F' n l') := by
  subst he hl
  exact set_any g n F l id t w h hn
theorem step_v (g n : Nat) (F : List Nat) (l l' : List Du) (d : List Int) (w : World) (h : WhIs w g F n l) (hn : n ≤ 1000000) (hd : Wh.due n l = d) (hl : Wh.rest n l = l') :
    Calls Try.prog 21 #[.pointer (some ⟨g, 0, none⟩)] w fun e w' => ∃ a cap, e = .returned (.slice a d.length cap) ∧ Only F w w' ∧ ∃ F', Hid (Moves w.heap.size F F') ∧ Hid (WhIs w' g F' (n + 1) l') ∧ Hid (RowsOf (fun b => w.heap.size ≤ b ∧ b < w'.heap.size ∧ b ∉ F') ie 1 w' (.slice a d.length cap) d) := by
  subst hd hl
  exact step_any g n F l w h hn
theorem nil_set (id t : Int) (w : World) : Calls Try.prog 23 #[.pointer none, .int .i64 id, .int .i64 t] w fun e w' => e = .returned (.int .i64 1) ∧ w = w' := by
  go_enter Try.func23, Try.ntmps23
  go_wp2
  go_ret
  exact ⟨rfl, rfl⟩
theorem nil_step (w : World) : Calls Try.prog 21 #[.pointer none] w fun e w' => e = .returned (.slice none 0 0) ∧ w = w' := by
  go_enter Try.func21, Try.ntmps21
  go_wp2
  go_ret
  exact ⟨rfl, rfl⟩
theorem nil_all (w : World) : Calls Try.prog 27 #[.pointer none] w fun e w' => e = .returned (.slice none 0 0) ∧ w = w' := by
  go_enter Try.func27, Try.ntmps27
  go_wp2
  go_ret
  exact ⟨rfl, rfl⟩
theorem nil_len (w : World) : Calls Try.prog 24 #[.pointer none] w fun e w' => e = .returned (.int .i64 0) ∧ w = w' := by
  go_enter Try.func24, Try.ntmps24
  go_wp2
  go_ret
  exact ⟨rfl, rfl⟩
theorem nil_now (w : World) : Calls Try.prog 25 #[.pointer none] w fun e w' => e = .returned (.int .i64 0) ∧ w = w' := by
  go_enter Try.func25, Try.ntmps25
  go_wp2
  go_ret
  exact ⟨rfl, rfl⟩
/-- A wheel of one's own. -/
structure Own (W w : World) (n : Nat) (l : List Du) : Prop where
  bel : Below W.heap.size W w
  is : ∃ F, WhIs w W.heap.size F n l
theorem Own.only {W w w' : World} {n n' : Nat} {l l' : List Du} {F F' : List Nat} (hb : Below W.heap.size W w) (h : WhIs w W.heap.size F n l) (ho : Only F w w') (h' : WhIs w' W.heap.size F' n' l') : Own W w' n' l' :=
  ⟨hb.trans (h.below ho), F', h'⟩
theorem Own.later {W w w' : World} {n : Nat} {l : List Du} (h : Own W w n l) (hb : Below w.heap.size w w') : Own W w' n l := by
  obtain ⟨F, hF⟩ := h.is
  exact ⟨h.bel.trans (hb.mono h.bel.size), F, hF.later hb⟩
theorem own_new (W : World) : Calls Try.prog 18 #[] W fun e w' => e = .returned (.pointer (some ⟨W.heap.size, 0, none⟩)) ∧ Hid (Own W w' 0 []) := by
  refine (new_any W).mono ?_
  rintro e w' ⟨rfl, hb, _, h⟩
  exact ⟨rfl, hb, _, h.out⟩
theorem own_set {W : World} {n : Nat} {l : List Du} (id t e : Int) (l' : List Du) (w : World) (h : Own W w n l) (hn : n ≤ 1000000) (he : Wh.setE l t = e) (hl : Wh.setL n l id t = l') :
    Calls Try.prog 23 #[.pointer (some ⟨W.heap.size, 0, none⟩), .int .i64 id, .int .i64 t] w fun x w' => x = .returned (.int .i64 e) ∧ Hid (Own W w' n l') := by
  obtain ⟨F, hF⟩ := h.is
  refine (set_v W.heap.size n F l l' id t e w hF hn he hl).mono ?_
  rintro x w' ⟨rfl, ho, F', _, h'⟩
  exact ⟨rfl, Own.only h.bel hF ho h'.out⟩
/-- A wheel of one's own, and a list of numbers beside it. -/
def Beside (W w : World) (n : Nat) (l : List Du) (v : Value) (d : List Int) : Prop :=
  Below W.heap.size W w ∧ ∃ F, WhIs w W.heap.size F n l ∧ RowsOf (fun b => b < w.heap.size ∧ b ∉ F) ie 1 w v d
theorem Beside.own {W w : World} {n : Nat} {l : List Du} {v : Value} {d : List Int} (h : Beside W w n l v d) : Own W w n l := by
  obtain ⟨h1, F, h2, _⟩ := h
  exact ⟨h1, F, h2⟩
theorem Beside.rows {W w : World} {n : Nat} {l : List Du} {v : Value} {d : List Int} (h : Beside W w n l v d) : RowsOf (fun b => b < w.heap.size) ie 1 w v d := by
  obtain ⟨h1, F, h2, h3⟩ := h
  exact h3.imp (fun b hb => hb.1)
/-- What a step gives. -/
def StepQ (W : World) (n : Nat) (d : List Int) (l' : List Du) (e : Ending) (w' : World) : Prop :=
  ∃ a cap, e = .returned (.slice a d.length cap) ∧ Hid (Own W w' n l') ∧ Hid (Beside W w' n l' (.slice a d.length cap) d)
theorem own_step {W : World} {n : Nat} {l : List Du} (d : List Int) (l' : List Du) (w : World) (h : Own W w n l) (hn : n ≤ 1000000) (hd : Wh.due n l = d) (hl : Wh.rest n l = l') :
    Calls Try.prog 21 #[.pointer (some ⟨W.heap.size, 0, none⟩)] w (StepQ W (n + 1) d l') := by
  obtain ⟨F, hF⟩ := h.is
  refine (step_v W.heap.size n F l l' d w hF hn hd hl).mono ?_
  rintro x w' ⟨a, cap, rfl, ho, F', _, h', hr⟩
  have ho' := Own.only h.bel hF ho h'.out
  exact ⟨a, cap, rfl, ho', ho'.bel, F', h'.out, hr.out.imp (fun b hb => hb.2)⟩
theorem beside_step {W : World} {n : Nat} {l : List Du} (d : List Int) (l' : List Du) (v : Value) (d0 : List Int) (w : World) (h : Beside W w n l v d0) (hn : n ≤ 1000000) (hd : Wh.due n l = d) (hl : Wh.rest n l = l') :
    Calls Try.prog 21 #[.pointer (some ⟨W.heap.size, 0, none⟩)] w fun e w' => ∃ a cap, e = .returned (.slice a d.length cap) ∧ Hid (Beside W w' (n + 1) l' v d0) := by
  obtain ⟨hb, F, hF, hv⟩ := h
  refine (step_v W.heap.size n F l l' d w hF hn hd hl).mono ?_
  rintro x w' ⟨a, cap, rfl, ho, F', hm, h', _⟩
  refine ⟨a, cap, rfl, hb.trans (hF.below ho), F', h'.out, (hv.only ho (fun b hb => hb)).imp (fun b hb => ⟨Nat.lt_of_lt_of_le hb.1 ho.size, fun hf => ?_⟩)⟩
  rcases hm.out b hf with h1 | h1
  · exact hb.2 h1
  · have := hb.1; omega
theorem own_len {W : World} {n : Nat} {l : List Du} (w : World) (h : Own W w n l) : Calls Try.prog 24 #[.pointer (some ⟨W.heap.size, 0, none⟩)] w fun e w' => e = .returned (.int .i64 l.length) ∧ w = w' := by
  obtain ⟨F, hF⟩ := h.is
  exact len_any _ n F l w hF
theorem own_now {W : World} {n : Nat} {l : List Du} (w : World) (h : Own W w n l) : Calls Try.prog 25 #[.pointer (some ⟨W.heap.size, 0, none⟩)] w fun e w' => e = .returned (.int .i64 n) ∧ w = w' := by
  obtain ⟨F, hF⟩ := h.is
  exact now_any _ n F l w hF
set_option maxRecDepth 100000 in
set_option maxHeartbeats 2000000 in
theorem known_any (W : World) : Calls Try.prog 17 #[] W fun e w' => e = .returned (.bool true) ∧ Below W.heap.size W w' := by
  go_enter Try.func17, Try.ntmps17
  go_wp2_with fail
  refine (own_new W).mono ?_
  rintro e w1 ⟨rfl, H1⟩
  go_wp2_with fail
  refine (own_set 7 2 0 [⟨7, 2⟩] w1 H1.out (by omega) (by decide) (by decide)).mono ?_
  rintro e w2 ⟨rfl, H2⟩
  go_wp2_with fail
  refine (own_set 8 51 12 [⟨7, 2⟩] w2 H2.out (by omega) (by decide) (by decide)).mono ?_
  rintro e w3 ⟨rfl, H3⟩
  go_wp2_with fail
  refine (own_step [] [⟨7, 2⟩] w3 H3.out (by omega) (by decide) (by decide)).mono ?_
  rintro e w4 ⟨a4, cap4, rfl, H4, _⟩
  go_wp2_with fail
  refine (own_step [7] [] w4 H4.out (by omega) (by decide) (by decide)).mono ?_
  rintro e w5 ⟨a5, cap5, rfl, _, H5⟩
  go_wp2_with fail
  refine (beside_step [] [] _ [7] w5 H5.out (by omega) (by decide) (by decide)).mono ?_
  rintro e w6 ⟨a6, cap6, rfl, H6⟩
  go_wp2_with fail
  have H7 : Hid (Own W (w6.alloc (.cells #[.int .i64 7] 3)) 3 []) := H6.out.own.later (by go_grown)
  refine (ints_any _ _ [7] [7] true _ (H6.out.rows.below (by go_grown) (fun b h => h)) (fun b h => by simp; omega) (rows_of_blk (enc := ie) (k := 1) ie_length (l := [7]) (Blk.new w6 #[.int .i64 7] 3) (by simp [maxLen])) (fun b h => by subst h; simp) (by simp) (by simp) (by simp)).mono ?_
  rintro e w7 ⟨rfl, hb7⟩
  have H8 := hid (H7.out.later hb7)
  clear hb7
  go_wp2_with (first
    | (go_at_call 25; (first | (refine (own_now _ H8.out).mono ?_; rintro e w' ⟨rfl, rfl⟩) | (refine (nil_now _).mono ?_; rintro e w' ⟨rfl, rfl⟩)))
    | (go_at_call 24; (first | (refine (own_len _ H8.out).mono ?_; rintro e w' ⟨rfl, rfl⟩) | (refine (nil_len _).mono ?_; rintro e w' ⟨rfl, rfl⟩)))
    | (go_at_call 23; refine (nil_set 1 1 _).mono ?_; rintro e w' ⟨rfl, rfl⟩)
    | (go_at_call 21; refine (nil_step _).mono ?_; rintro e w' ⟨rfl, rfl⟩)
    | (go_at_call 27; refine (nil_all _).mono ?_; rintro e w' ⟨rfl, rfl⟩))
  go_ret
  exact ⟨rfl, H8.out.bel⟩
end C22
end Go.Proofs.Ythmopkaecbebpaa
