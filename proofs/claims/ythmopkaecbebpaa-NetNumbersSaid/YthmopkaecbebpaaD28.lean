/- Walks of layer 28 (net): what a net's memory holds; a new one; how many were lost; the letters; a letter sent; no condition. -/
import Derived.Test.YthmopkaecbebpaaC28
import Derived.Deep.RegionHeld3
namespace Go.Peri
theorem wpGen {P : Program} {c : Code} {Q : Exit → Act → World → Prop} {a : Act} {w : World} (h : ∀ w2, w2 = w → c.wp P Q a w2) : c.wp P Q a w := h w rfl
end Go.Peri
namespace Go.Proofs.Ythmopkaecbebpaa
open Go.RowKit Go.Peri
namespace C28
structure Parts (w : World) (g m : Nat) (s : Nt) (v : Value) : Prop where
  blk : Blk w g #[v, .int .i64 s.next, .int .i64 s.lost] 139
  own : w.ownsRow (g + 1) 62 4 v s.all.length (s.all.flatMap Lt.enc)
  inv : Nt.Inv s m
  cap : s.lost ≤ 1099511627776
/-- A net in block g; F: its blocks. -/
def NetIs (w : World) (g : Nat) (F : List Nat) (m : Nat) (s : Nt) : Prop := ∃ v, F = g :: blocks v ∧ Parts w g m s v
theorem NetIs.bd {w : World} {g m : Nat} {F : List Nat} {s : Nt} (h : NetIs w g F m s) : ∀ k, k ∈ F → g ≤ k ∧ k < w.heap.size := by
  obtain ⟨v, rfl, h⟩ := h
  intro k hk
  rcases List.mem_cons.1 hk with rfl | hk
  · exact ⟨Nat.le_refl _, h.blk.lt⟩
  · have := owns_bd h.own k hk; omega
theorem NetIs.inv {w : World} {g m : Nat} {F : List Nat} {s : Nt} (h : NetIs w g F m s) : Nt.Inv s m := by
  obtain ⟨v, rfl, h⟩ := h
  exact h.inv
theorem NetIs.mem {w : World} {g m : Nat} {F : List Nat} {s : Nt} (h : NetIs w g F m s) : g ∈ F := by
  obtain ⟨v, rfl, h⟩ := h
  simp
theorem NetIs.mono {w : World} {g m m' : Nat} {F : List Nat} {s : Nt} (h : NetIs w g F m s) (hm : m ≤ m') : NetIs w g F m' s := by
  obtain ⟨v, rfl, h⟩ := h
  exact ⟨v, rfl, h.blk, h.own, h.inv.mono hm, h.cap⟩
theorem NetIs.only {S : List Nat} {w w' : World} {g m : Nat} {F : List Nat} {s : Nt} (h : NetIs w g F m s) (ho : Only S w w') (hs : Disj F S) : NetIs w' g F m s := by
  obtain ⟨v, rfl, h⟩ := h
  exact ⟨v, rfl, h.blk.only ho (hs g (by simp)), owns_keep h.own ho (fun k hk => hs k (List.mem_cons_of_mem _ hk)), h.inv, h.cap⟩
theorem NetIs.later {w w' : World} {g m : Nat} {F : List Nat} {s : Nt} (h : NetIs w g F m s) (hb : Below w.heap.size w w') : NetIs w' g F m s :=
  h.only (S := []) (Only.of_below hb) (fun k _ hk => by simp at hk)
theorem NetIs.below {w w' : World} {g m : Nat} {F : List Nat} {s : Nt} (h : NetIs w g F m s) (ho : Only F w w') : Below g w w' :=
  ho.below (Nat.le_of_lt (h.bd g h.mem).2) (fun k hk => (h.bd k hk).1)
theorem NetIs.form {w : World} {g m : Nat} {F : List Nat} {s : Nt} (h : NetIs w g F m s) : ∃ a cap, F = g :: blocks (.slice a s.all.length cap) ∧ Parts w g m s (.slice a s.all.length cap) := by
  obtain ⟨v, rfl, h⟩ := h
  have hf : ∃ a cap, v = .slice a s.all.length cap := by
    rcases h.own.2 with ⟨h5, h0⟩ | ⟨gg, cap, cur, h5, _⟩
    · rw [h5, h0]; exact ⟨none, 0, rfl⟩
    · rw [h5]; exact ⟨_, cap, rfl⟩
  obtain ⟨a, cap, rfl⟩ := hf
  exact ⟨a, cap, rfl, h⟩
theorem load_any (g k : Nat) (x : Int) (w : World) (hc : w.cell? ⟨g, k, none⟩ = some (.int .i64 x)) :
    Calls Try.prog 74 #[.pointer (some ⟨g, k, none⟩)] w fun e w' => e = .returned (.int .i64 x) ∧ w = w' := by
  have hl := run_call_load (P := Try.prog) Try.func109 (by kernel_rfl) (by kernel_rfl) (by kernel_rfl) .i64 (by kernel_rfl) hc
  go_enter Try.func74, Try.ntmps74
  go_wp2
  go_ret
  exact ⟨rfl, rfl⟩
theorem store_any (g k : Nat) (x : Int) (u : Value) (w : World) (hc : w.cell? ⟨g, k, none⟩ = some u) (hz : w.frozen? ⟨g, k, none⟩ = false) :
    Calls Try.prog 102 #[.pointer (some ⟨g, k, none⟩), .int .i64 x] w fun e w' => e = .returned (.tuple #[]) ∧ w.setCell ⟨g, k, none⟩ (.int .i64 x) = w' := by
  have hl := run_call_store (P := Try.prog) Try.func131 (by kernel_rfl) (by kernel_rfl) (by kernel_rfl) (by kernel_rfl) (k := .i64) (y := x) hc hz
  go_enter Try.func102, Try.ntmps102
  go_wp2
  go_end0
  exact ⟨rfl, rfl⟩
set_option maxRecDepth 100000 in
theorem new_any (w : World) : Calls Try.prog 30 #[] w fun e w' => e = .returned (.pointer (some ⟨w.heap.size, 0, none⟩)) ∧ Below w.heap.size w w' ∧ w'.heap.size = w.heap.size + 1 ∧ Hid (NetIs w' w.heap.size [w.heap.size] 0 Nt.new) := by
  go_enter Try.func30, Try.ntmps30
  go_wp2_with fail
  go_ret
  exact ⟨rfl, by go_grown, by simp, ⟨.slice none 0 0, by simp [blocks, Value.ownBlock], Blk.new _ _ _, World.ownsRow_nil _ _ _ _, Nt.inv_new, by simp [Nt.new]⟩⟩
theorem lost_any (g m : Nat) (F : List Nat) (s : Nt) (w : World) (h : NetIs w g F m s) :
    Calls Try.prog 32 #[.pointer (some ⟨g, 0, none⟩)] w fun e w' => e = .returned (.int .i64 s.lost) ∧ w = w' := by
  obtain ⟨v, _, h⟩ := h
  have c2 : w.cell? ⟨g, 2, none⟩ = some (.int .i64 s.lost) := h.blk.cell 2
  have hc := h.cap
  clear h
  go_enter Try.func32, Try.ntmps32
  go_wp2_with (go_at_call 74; refine (load_any _ _ _ _ c2).mono ?_; rintro e w' ⟨rfl, rfl⟩)
  go_ret
  exact ⟨rfl, rfl⟩
/-- A list of letters in new memory. -/
def NewL (w : World) (l : List Lt) (e : Ending) (w' : World) : Prop :=
  ∃ a cap, e = .returned (.slice a l.length cap) ∧ Below w.heap.size w w' ∧ Hid (RowsOf (fun b => w.heap.size ≤ b ∧ b < w'.heap.size) Lt.enc 4 w' (.slice a l.length cap) l)
theorem all_any (g m : Nat) (F : List Nat) (s : Nt) (w : World) (h : NetIs w g F m s) :
    Calls Try.prog 34 #[.pointer (some ⟨g, 0, none⟩)] w (NewL w s.all) := by
  obtain ⟨a, cap, _, h⟩ := h.form
  have c0 : w.cell? ⟨g, 0, none⟩ = some (.slice a s.all.length cap) := h.blk.cell 0
  have HR := hid (RowsOf.of_owns (e := 62) Lt.enc_length h.own)
  have hl : s.all.length ≤ 1000000 := by have := h.inv.len; omega
  clear h
  go_enter Try.func34, Try.ntmps34
  go_wp2_with fail
  refine (clone_any _ s.all _ HR.out (fun b h => h.2) hl).mono ?_
  rintro e w1 ⟨a1, cap1, rfl, hb1, HL⟩
  have HB := hid hb1
  clear hb1
  go_wp2_with fail
  go_ret
  exact ⟨a1, cap1, rfl, HB.out, RowsOf.of_owns (e := 62) Lt.enc_length HL.out⟩
theorem nil_all (w : World) : Calls Try.prog 34 #[.pointer none] w fun e w' => e = .returned (.slice none 0 0) ∧ w = w' := by
  go_enter Try.func34, Try.ntmps34
  go_wp2
  go_ret
  exact ⟨rfl, rfl⟩
theorem nil_lost (w : World) : Calls Try.prog 32 #[.pointer none] w fun e w' => e = .returned (.int .i64 0) ∧ w = w' := by
  go_enter Try.func32, Try.ntmps32
  go_wp2
  go_ret
  exact ⟨rfl, rfl⟩
theorem nil_send (f t : Int) (b : ByteArray) (w : World) : Calls Try.prog 35 #[.pointer none, .int .i64 f, .int .i64 t, .string b] w fun e w' => e = .returned (.bool false) ∧ w = w' := by
  go_enter Try.func35, Try.ntmps35
  go_wp2
  go_ret
  exact ⟨rfl, rfl⟩
/-- What is left of a net behind a call. -/
def NetQ (g : Nat) (F : List Nat) (m : Nat) (s : Nt) (w w' : World) : Prop := Only F w w' ∧ ∃ F', Hid (Moves w.heap.size F F') ∧ Hid (NetIs w' g F' m s)
theorem lose1_set {w : World} {g m : Nat} {F : List Nat} {s : Nt} {x : Int} (h : NetIs w g F m s) (hx : x = min ((s.lost : Int) + 1) 1099511627776) : NetIs (w.setCell ⟨g, 2, none⟩ (.int .i64 x)) g F (m + 1) s.lose1 := by
  obtain ⟨v, rfl, h⟩ := h
  have e : x = ((s.lose1.lost : Nat) : Int) := by rw [hx]; show _ = ((min (s.lost + 1) 1099511627776 : Nat) : Int); omega
  subst e
  refine ⟨v, rfl, h.blk.set 2 _, ?_, h.inv.lose1, by show min _ _ ≤ _; omega⟩
  refine owns_keep (S := [g]) h.own ((Only.refl _ _).setCell (by simp) _) ?_
  intro k hk hg
  have := owns_bd h.own k hk
  simp at hg
  omega
set_option maxRecDepth 100000 in
set_option maxHeartbeats 1000000 in
theorem lose_one (g m : Nat) (F : List Nat) (s : Nt) (w : World) (h : NetIs w g F m s) :
    Calls Try.prog 76 #[.pointer (some ⟨g, 0, none⟩)] w fun e w' => e = .returned (.tuple #[]) ∧ Only [g] w w' ∧ Hid (NetIs w' g F (m + 1) s.lose1) := by
  have HH : Hid (NetIs w.drew g F m s) := h.later (Below.refl _ _).drew
  obtain ⟨v, _, h⟩ := h
  have c2 : w.drew.cell? ⟨g, 2, none⟩ = some (.int .i64 s.lost) := h.blk.cell 2
  have f2 : w.drew.frozen? ⟨g, 2, none⟩ = false := h.blk.free 2
  have hcap := h.cap
  have hwr : IntKind.i64.wrap ((s.lost : Int) + 1) = (s.lost : Int) + 1 := IntWalk.i64_in _ (by omega)
  have HC2 := hid c2
  have HF2 := hid f2
  clear h c2 f2
  by_cases hm : 1099511627776 < (s.lost : Int) + 1
  all_goals
    go_enter Try.func76, Try.ntmps76
    refine wp_region_still_tail 9 (by kernel_rfl) (by kernel_rfl) ?_
    simp only [List.take_succ_cons, List.take_zero, List.drop_succ_cons, List.drop_zero]
    repeat still_step
    still_call ((load_any g 2 s.lost _ HC2.out).mono fun _ _ hh => ⟨hh.1, hh.2.symm⟩)
    repeat still_step
    refine wpStill_nil ?_
    change wpList _ _ _ _ _ w.drew
    go_wp2_with fail
    refine (store_any g 2 _ _ w.drew HC2.out HF2.out).mono ?_
    rintro e w' ⟨rfl, rfl⟩
    go_wp2_with fail
    go_end0
    exact ⟨rfl, (Only.refl _ _).drew.setCell (by simp) _, lose1_set HH.out (by omega)⟩
set_option maxRecDepth 100000 in
set_option maxHeartbeats 1000000 in
theorem send_full (g m : Nat) (F : List Nat) (s : Nt) (f t : Int) (b : ByteArray) (w : World) (h : NetIs w g F m s) (hf : 256 ≤ s.all.length) :
    Calls Try.prog 35 #[.pointer (some ⟨g, 0, none⟩), .int .i64 f, .int .i64 t, .string b] w fun e w' => e = .returned (.bool false) ∧ Only [g] w w' ∧ Hid (NetIs w' g F (m + 1) s.lose1) := by
  have HH := hid h
  obtain ⟨a, cap, _, h⟩ := h.form
  have c0 : w.cell? ⟨g, 0, none⟩ = some (.slice a s.all.length cap) := h.blk.cell 0
  have hr : (256 : Int) ≤ (s.all.length : Int) := by omega
  clear h
  go_enter Try.func35, Try.ntmps35
  go_wp2_with fail
  refine (lose_one g m F s w HH.out).mono ?_
  rintro e w1 ⟨rfl, ho, h1⟩
  go_wp2_with fail
  go_ret
  exact ⟨rfl, ho, h1⟩
set_option maxRecDepth 100000 in
set_option maxHeartbeats 4000000 in
theorem send_more (g m : Nat) (F : List Nat) (s : Nt) (f t : Int) (b : ByteArray) (w : World) (h : NetIs w g F m s) (hm : m ≤ 100000) (hf : s.all.length < 256) :
    Calls Try.prog 35 #[.pointer (some ⟨g, 0, none⟩), .int .i64 f, .int .i64 t, .string b] w fun e w' => e = .returned (.bool true) ∧ NetQ g F (m + 1) (s.send f t b) w w' := by
  have hnext := h.inv.next
  have HI := hid h.inv
  obtain ⟨a, cap, hF, hp⟩ := h.form
  clear h
  subst hF
  have h := hp
  clear hp
  have hgl := h.blk.lt
  have hcap := h.cap
  have hr : ¬ (256 : Int) ≤ (s.all.length : Int) := by omega
  have c0 : w.cell? ⟨g, 0, none⟩ = some (.slice a s.all.length cap) := h.blk.cell 0
  have c1 : w.cell? ⟨g, 1, none⟩ = some (.int .i64 s.next) := h.blk.cell 1
  have f0 := h.blk.free 0
  have hne : ¬ g = w.heap.size := by omega
  have hne2 : ¬ w.heap.size = g := by omega
  have HO : Hid (w.drew.ownsRow (g + 1) 62 4 (.slice a s.all.length cap) s.all.length (s.all.flatMap Lt.enc)) := h.own
  have HG : Hid (Blk w.drew g #[.slice a s.all.length cap, .int .i64 s.next, .int .i64 s.lost] 139) := h.blk
  have l63 : s.all.length + 1 ≤ 9223372036854775807 := by omega
  have lby : (s.all.length + 1) * 40 ≤ 140737488355328 := by omega
  have lbase : g + 1 ≤ w.drew.heap.size := by simp; omega
  have HN1 : Hid (g ∉ (Value.slice a s.all.length cap).ownBlock.toList) := fun hm => by have := owns_bd HO.out g hm; omega
  clear h
  go_enter Try.func35, Try.ntmps35
  go_wp2_with fail
  go_region_law (refine step_push_at elemL rfl (.tmp 23) (.tmp 32) rfl (g + 1) (.slice a s.all.length cap) s.all.length (s.all.flatMap Lt.enc) (Lt.enc ⟨s.next, f, t, b⟩) (by simp [Act.eval]) HO.out rfl (by simp [Act.eval]) rfl (by simp [Lt.enc, Value.oneCell']) l63 lby lbase ?_; intro hb1 cap1 w1 hown1 honly1 hat1; have k0 := (HG.out.only honly1 HN1.out).cell 0; have k1 := (HG.out.only honly1 HN1.out).cell 1; have kf := (HG.out.only honly1 HN1.out).free 0; have kf1 := (HG.out.only honly1 HN1.out).free 1; simp only [List.getElem?_toArray, List.getElem?_cons_zero, List.getElem?_cons_succ] at k0 k1)
  all_goals
    have HF1 := hid hown1
    have HF2 := hid honly1
    have HF3 := hid hat1
    clear hown1 honly1 hat1
    go_wp2_with fail
    go_ret
    have he : s.send f t b = ⟨s.all ++ [⟨s.next, f, t, b⟩], s.next + 1, s.lost⟩ := if_neg (by omega)
    have hi := HI.out.send f t b
    rw [he] at hi ⊢
    have hO1 : Only (g :: blocks (.slice a s.all.length cap)) w w1 := (Only.refl _ w).drew.trans (HF2.out.mono (fun k hk => List.mem_cons_of_mem _ hk))
    have hO2 : Only [g] w1 ((w1.setCell ⟨g, 0, none⟩ (.slice (some ⟨hb1, 0, none⟩) (s.all.length + 1) cap1)).setCell ⟨g, 1, none⟩ (.int .i64 (s.next + 1))) := ((Only.refl _ _).setCell (by simp) _).setCell (by simp) _
    refine ⟨rfl, hO1.trans (hO2.mono (by simp)), g :: blocks (.slice (some ⟨hb1, 0, none⟩) (s.all.length + 1) cap1), ?_, .slice (some ⟨hb1, 0, none⟩) (s.all.length + 1) cap1, rfl, ?_, ?_, hi, hcap⟩
    · intro k hk
      rcases List.mem_cons.1 hk with rfl | hk
      · exact .inl (by simp)
      · have hk1 : k = hb1 := by simpa [blocks, Value.ownBlock] using hk
        subst hk1
        rcases HF3.out with h1 | h1
        · refine .inl (List.mem_cons_of_mem _ ?_)
          unfold blocks
          rw [← h1]
          simp
        · exact .inr h1
    · have := ((HG.out.only HF2.out HN1.out).set 0 (.slice (some ⟨hb1, 0, none⟩) (s.all.length + 1) cap1)).set 1 (.int .i64 (s.next + 1))
      exact this
    · refine owns_keep (S := [g]) (by simpa using HF1.out) hO2 ?_
      intro k hk hg
      have := owns_bd HF1.out k hk
      simp at hg
      omega
theorem send_any (g m : Nat) (F : List Nat) (s s' : Nt) (f t : Int) (b : ByteArray) (r : Bool) (w : World) (h : NetIs w g F m s) (hm : m ≤ 100000) (hr : s.sendB = r) (hs : s.send f t b = s') :
    Calls Try.prog 35 #[.pointer (some ⟨g, 0, none⟩), .int .i64 f, .int .i64 t, .string b] w fun e w' => e = .returned (.bool r) ∧ NetQ g F (m + 1) s' w w' := by
  subst hr hs
  by_cases hf : s.all.length < 256
  · have e : s.sendB = true := decide_eq_true hf
    rw [e]
    exact send_more g m F s f t b w h hm hf
  · have e : s.sendB = false := decide_eq_false hf
    have e2 : s.send f t b = s.lose1 := if_pos (by omega)
    rw [e, e2]
    refine (send_full g m F s f t b w h (by omega)).mono ?_
    rintro e w' ⟨rfl, ho, h1⟩
    exact ⟨rfl, ho.mono (by intro k hk; rw [List.mem_singleton] at hk; subst hk; exact h.mem), F, Moves.refl _ _, h1⟩
set_option maxRecDepth 100000 in
set_option maxHeartbeats 1000000 in
/-- The letter at a place taken off. -/
theorem drop_any (g m : Nat) (F : List Nat) (s : Nt) (k : Nat) (w : World) (h : NetIs w g F m s) (hk : k < s.all.length) :
    Calls Try.prog 79 #[.pointer (some ⟨g, 0, none⟩), .int .i64 k] w fun e w' => e = .returned (.tuple #[]) ∧ Only F w w' ∧ Hid (NetIs w' g F m (s.off k)) := by
  have hi := h.inv.off k
  have HI := hid hi
  have hlen := h.inv.len
  obtain ⟨a, cap, hF, hp⟩ := h.form
  clear h hi
  subst hF
  obtain ⟨hb, rfl⟩ : ∃ hb, a = some ⟨hb, 0, none⟩ := by
    rcases hp.own.2 with ⟨h5, h0⟩ | ⟨gg, cp, cur, h5, _⟩
    · omega
    · injection h5 with h5 _ _
      exact ⟨gg, h5⟩
  have c0 : w.cell? ⟨g, 0, none⟩ = some (.slice (some ⟨hb, 0, none⟩) s.all.length cap) := hp.blk.cell 0
  have HP := hid hp
  have hd := delete_any (g + 1) hb cap k (k + 1) s.all w hp.own (by omega) (by omega) (by omega)
  rw [show k + 1 - k = 1 by omega] at hd
  have HD := hid hd
  have hgl := hp.blk.lt
  clear hp hd
  go_enter Try.func79, Try.ntmps79
  go_wp2_with fail
  refine HD.out.mono ?_
  rintro e w1 ⟨v, rfl, rfl, ho, hown⟩
  have hng : g ∉ [hb] := by
    intro hg
    rw [List.mem_singleton] at hg
    have := owns_bd HP.out.own hb (by simp [blocks, Value.ownBlock])
    omega
  have hb1 := HP.out.blk.only ho hng
  have k0 : w1.cell? ⟨g, 0, none⟩ = some (.slice (some ⟨hb, 0, none⟩) s.all.length cap) := hb1.cell 0
  have kf := hb1.free 0
  have HB1 := hid hb1
  have HO := hid ho
  have HOwn := hid hown
  clear ho hown hb1 hng
  go_wp2_with fail
  go_end0
  have hlen1 : (s.off k).all.length = s.all.length - 1 := by
    show (s.all.eraseIdx _).length = _
    rw [List.length_eraseIdx_of_lt (by simpa using hk)]
  refine ⟨rfl, (HO.out.mono (by intro q hq; rw [List.mem_singleton] at hq; subst hq; simp [blocks, Value.ownBlock])).setCell (by simp) _, .slice (some ⟨hb, 0, none⟩) (s.all.length - 1) cap, rfl, HB1.out.set 0 _, ?_, HI.out, HP.out.cap⟩
  rw [hlen1, show (s.off k).all = s.all.take k ++ s.all.drop (k + 1) from Nt.erase_eq _ _]
  refine owns_keep (S := [g]) HOwn.out ((Only.refl _ _).setCell (by simp) _) ?_
  intro q hq hg
  have := owns_bd HOwn.out q hq
  simp at hg
  omega
end C28
end Go.Proofs.Ythmopkaecbebpaa
