/- Walks of layer 27 (export): how many spans there are. Walks of layer 27 (export): what is under way is given. Walks of layer 27 (export): an exporter that is nil; limits; a node that is none. Walks of layer 27 (export): what must come of fixed calls. Plain laws of layer 27 (export): what an exporter keeps. No program in sight. -/
import Derived.Test.YtcohcanakicmpaaMg09
namespace Go.Proofs.Ytcohcanakicmpaa
open Go.RowKit Go.Peri
open Sq (rest ixQ atQ total bk benc)
open C26 (QR BR BO Fresh clk)
open C25 (BufIs roomR own Moved)
namespace C27
def begunX (x : Xs) : Int := (((x.wait.length : Int) + (total x.way : Nat)) + x.acked) + x.lost + x.given
theorem blk7 {w : World} {g t : Nat} {a0 a1 a2 a3 a4 a5 a6 : Value} (h : Blk w g #[a0, a1, a2, a3, a4, a5, a6] t) : w.cell? ⟨g, 0, none⟩ = some a0 ∧ w.cell? ⟨g, 1, none⟩ = some a1 ∧ w.cell? ⟨g, 2, none⟩ = some a2 ∧ w.cell? ⟨g, 3, none⟩ = some a3 ∧ w.cell? ⟨g, 4, none⟩ = some a4 ∧ w.cell? ⟨g, 5, none⟩ = some a5 ∧ w.cell? ⟨g, 6, none⟩ = some a6 :=
  ⟨h.cell 0, h.cell 1, h.cell 2, h.cell 3, h.cell 4, h.cell 5, h.cell 6⟩
theorem put7 {w : World} {g t : Nat} {z0 z1 z2 z3 z4 z5 z6 : Value} (h : Blk w g #[z0, z1, z2, z3, z4, z5, z6] t) (a0 a1 a2 a3 a4 a5 a6 : Value) : Blk (((((((w.setCell ⟨g, 0, none⟩ a0).setCell ⟨g, 1, none⟩ a1).setCell ⟨g, 2, none⟩ a2).setCell ⟨g, 3, none⟩ a3).setCell ⟨g, 4, none⟩ a4).setCell ⟨g, 5, none⟩ a5).setCell ⟨g, 6, none⟩ a6) g #[a0, a1, a2, a3, a4, a5, a6] t := by
  have h0 : Blk (w.setCell ⟨g, 0, none⟩ a0) g #[a0, z1, z2, z3, z4, z5, z6] t := h.set 0 a0
  have h1 := h0.set 1 a1
  have h2 := h1.set 2 a2
  have h3 := h2.set 3 a3
  have h4 := h3.set 4 a4
  have h5 := h4.set 5 a5
  exact h5.set 6 a6
theorem only7 {w1 w : World} {g : Nat} (h : Only [] w1 w) (hg : w1.heap.size ≤ g) (a0 a1 a2 a3 a4 a5 a6 : Value) : Only [] w1 (((((((w.setCell ⟨g, 0, none⟩ a0).setCell ⟨g, 1, none⟩ a1).setCell ⟨g, 2, none⟩ a2).setCell ⟨g, 3, none⟩ a3).setCell ⟨g, 4, none⟩ a4).setCell ⟨g, 5, none⟩ a5).setCell ⟨g, 6, none⟩ a6) := by
  iterate 7 (refine Only.setNew ?_ hg _)
  exact h
def TallyQ (W : World) (x : Xs) (e : Ending) (w' : World) : Prop :=
  e = .returned (.agg #[.int .i64 (begunX x), .int .i64 0, .int .i64 x.wait.length, .int .i64 (total x.way : Nat), .int .i64 x.acked, .int .i64 x.lost, .int .i64 x.given]) ∧ Below W.heap.size W w'
set_option maxRecDepth 100000 in
set_option maxHeartbeats 16000000 in
theorem tally_any (gX gS gB : Nat) (h : Option Nat) (node : Int) (c : Lim) (x : Xs) (W : World) (hx : XIs W gX gS gB h node c x) (bd : Bd x) :
    Calls Try.prog 13 #[.pointer (some ⟨gX, 0, none⟩)] W (TallyQ W x) := by
  have HX := hid hx
  have HBD := hid bd
  have ha : (0 : Int) ≤ (x.wait.length : Int) ∧ (x.wait.length : Int) ≤ 1000 := by
    obtain ⟨_, _, _, _, h4, h5, _⟩ := hx.s.bb
    omega
  have hb : (0 : Int) ≤ ((total x.way : Nat) : Int) ∧ ((total x.way : Nat) : Int) ≤ 1000 := by have := way128 bd; omega
  have hc : (0 : Int) ≤ (x.acked : Int) ∧ (x.acked : Int) ≤ 100000 := by have := bd.acked; omega
  have hd : (0 : Int) ≤ x.lost ∧ x.lost ≤ 1099511627776 := by
    obtain ⟨_, _, _, _, h4, h5, h6, h7⟩ := hx.s.bb
    omega
  have he : (0 : Int) ≤ (x.given : Int) ∧ (x.given : Int) ≤ 100000 := by have := bd.given; omega
  obtain ⟨a0, cap0, hb0, hq0⟩ := hx.s.bs
  have HB0 := hid hb0
  have X0 : Hid (∀ w', Below W.heap.size W w' → Calls Try.prog 34 #[.pointer (some ⟨gB, 0, none⟩)] w' fun e w'' => e = .returned (.int .i64 x.wait.length) ∧ Below w'.heap.size w' w'') := hid (fun w' hb => (C25.len_any gB h _ x.wait x.lost w' (HX.out.s.later hb).bb).mono (by rintro e w'' ⟨rfl, rfl⟩; exact ⟨rfl, Below.refl _ _⟩))
  have X1 : Hid (∀ w', Below W.heap.size W w' → Calls Try.prog 35 #[.slice a0 x.way.length cap0] w' fun e w'' => e = .returned (.int .i64 (total x.way : Nat)) ∧ Below w'.heap.size w' w'') := hid (fun w' hb => C26.spansQ_any _ x.way w' (hq0.below hb (fun b h => h.1)) (fun b h => Nat.lt_of_lt_of_le h.1 hb.size) (by have := HBD.out.way; omega) (fun k hk => by have := (HBD.out.sp k hk).1; omega))
  have X2 : Hid (∀ w', Below W.heap.size W w' → Calls Try.prog 36 #[.pointer (some ⟨gS, 17, none⟩)] w' fun e w'' => e = .returned (.int .i64 x.acked) ∧ Below w'.heap.size w' w'') := hid (fun w' hb => (C25.load_any gS 17 x.acked w' ((HB0.out.later hb).cell 17)).mono (by rintro e w'' ⟨rfl, rfl⟩; exact ⟨rfl, Below.refl _ _⟩))
  have X3 : Hid (∀ w', Below W.heap.size W w' → Calls Try.prog 37 #[.pointer (some ⟨gB, 0, none⟩)] w' fun e w'' => e = .returned (.int .i64 x.lost) ∧ Below w'.heap.size w' w'') := hid (fun w' hb => (C25.lost_any gB h _ x.wait x.lost w' (HX.out.s.later hb).bb).mono (by rintro e w'' ⟨rfl, rfl⟩; exact ⟨rfl, Below.refl _ _⟩))
  have X4 : Hid (∀ w', Below W.heap.size W w' → Calls Try.prog 36 #[.pointer (some ⟨gS, 18, none⟩)] w' fun e w'' => e = .returned (.int .i64 x.given) ∧ Below w'.heap.size w' w'') := hid (fun w' hb => (C25.load_any gS 18 x.given w' ((HB0.out.later hb).cell 18)).mono (by rintro e w'' ⟨rfl, rfl⟩; exact ⟨rfl, Below.refl _ _⟩))
  have KEEP : Hid (∀ w', Below W.heap.size W w' → w'.cell? ⟨gS, 0, none⟩ = some (.pointer (some ⟨gB, 0, none⟩)) ∧ w'.cell? ⟨gS, 14, none⟩ = some (.slice a0 x.way.length cap0)) := hid (fun w' hb => ⟨(HB0.out.later hb).cell 0, (HB0.out.later hb).cell 14⟩)
  have x0 := hx.bx.cell 0
  have hgl := hx.bx.lt
  have hgs := hx.s.gSlt
  simp only [List.getElem?_toArray, List.getElem?_cons_zero] at x0
  have HBE : Hid (begunX x = (((x.wait.length : Int) + (total x.way : Nat)) + x.acked) + x.lost + x.given) := hid rfl
  unfold TallyQ
  generalize begunX x = vs at HBE ⊢
  generalize (x.wait.length : Int) = va at X0 ha HBE ⊢
  generalize ((total x.way : Nat) : Int) = vb at X1 hb HBE ⊢
  generalize (x.acked : Int) = vc at X2 hc HBE ⊢
  generalize x.lost = vd at X3 hd HBE ⊢
  generalize (x.given : Int) = ve at X4 he HBE ⊢
  generalize x.way.length = m at X1 KEEP
  clear hx bd hb0 hq0 HBD HX HB0
  go_enter Try.func13, Try.ntmps13
  go_upto_region 4 with fail
  refine wp_genS ?_
  intro w1 hw1
  have hb1 : Below W.heap.size W w1 := by rw [hw1]; go_grown
  have hk1 : Blk w1 W.heap.size #[.int .i64 0, .int .i64 0, .int .i64 0, .int .i64 0, .int .i64 0, .int .i64 0, .int .i64 0] 50 := by rw [hw1]; exact Blk.new _ _ _
  have HB1 := hid hb1
  have HK1 := hid hk1
  clear hw1 hk1 x0
  have Y0 : Hid (∀ w', Only [] w1 w' → Calls Try.prog 34 #[.pointer (some ⟨gB, 0, none⟩)] w' fun e w'' => e = .returned (.int .i64 va) ∧ Only [] w1 w'' ∧ (∀ g cs t, Blk w' g cs t → Blk w'' g cs t)) := hid (fun w' ho => (X0.out w' (HB1.out.trans (ho.nil.mono HB1.out.size))).mono (by rintro e w'' ⟨rfl, hb⟩; exact ⟨rfl, ho.trans (Only.of_below hb), fun g cs t hk => hk.later hb⟩))
  have Y1 : Hid (∀ w', Only [] w1 w' → Calls Try.prog 35 #[.slice a0 m cap0] w' fun e w'' => e = .returned (.int .i64 vb) ∧ Only [] w1 w'' ∧ (∀ g cs t, Blk w' g cs t → Blk w'' g cs t)) := hid (fun w' ho => (X1.out w' (HB1.out.trans (ho.nil.mono HB1.out.size))).mono (by rintro e w'' ⟨rfl, hb⟩; exact ⟨rfl, ho.trans (Only.of_below hb), fun g cs t hk => hk.later hb⟩))
  have Y2 : Hid (∀ w', Only [] w1 w' → Calls Try.prog 36 #[.pointer (some ⟨gS, 17, none⟩)] w' fun e w'' => e = .returned (.int .i64 vc) ∧ Only [] w1 w'' ∧ (∀ g cs t, Blk w' g cs t → Blk w'' g cs t)) := hid (fun w' ho => (X2.out w' (HB1.out.trans (ho.nil.mono HB1.out.size))).mono (by rintro e w'' ⟨rfl, hb⟩; exact ⟨rfl, ho.trans (Only.of_below hb), fun g cs t hk => hk.later hb⟩))
  have Y3 : Hid (∀ w', Only [] w1 w' → Calls Try.prog 37 #[.pointer (some ⟨gB, 0, none⟩)] w' fun e w'' => e = .returned (.int .i64 vd) ∧ Only [] w1 w'' ∧ (∀ g cs t, Blk w' g cs t → Blk w'' g cs t)) := hid (fun w' ho => (X3.out w' (HB1.out.trans (ho.nil.mono HB1.out.size))).mono (by rintro e w'' ⟨rfl, hb⟩; exact ⟨rfl, ho.trans (Only.of_below hb), fun g cs t hk => hk.later hb⟩))
  have Y4 : Hid (∀ w', Only [] w1 w' → Calls Try.prog 36 #[.pointer (some ⟨gS, 18, none⟩)] w' fun e w'' => e = .returned (.int .i64 ve) ∧ Only [] w1 w'' ∧ (∀ g cs t, Blk w' g cs t → Blk w'' g cs t)) := hid (fun w' ho => (X4.out w' (HB1.out.trans (ho.nil.mono HB1.out.size))).mono (by rintro e w'' ⟨rfl, hb⟩; exact ⟨rfl, ho.trans (Only.of_below hb), fun g cs t hk => hk.later hb⟩))
  have KEEP1 : Hid (∀ w', Only [] w1 w' → w'.cell? ⟨gS, 0, none⟩ = some (.pointer (some ⟨gB, 0, none⟩)) ∧ w'.cell? ⟨gS, 14, none⟩ = some (.slice a0 m cap0)) := hid (fun w' ho => KEEP.out w' (HB1.out.trans (ho.nil.mono HB1.out.size)))
  go_cut [4] (fun s4 wx => ∃ gb, s4 = .pointer (some ⟨gb, 0, none⟩) ∧ w1.heap.size ≤ gb ∧ Below w1.heap.size w1 wx ∧ Blk wx gb #[.int .i64 0, .int .i64 0, .int .i64 va, .int .i64 vb, .int .i64 vc, .int .i64 vd, .int .i64 ve] 50)
  case first =>
    have hlW := HK1.out.lt
    refine wp_region_held_drew (S := (fun w' => w'.cell? ⟨gS, 0, none⟩ = some (.pointer (some ⟨gB, 0, none⟩)) ∧ w'.cell? ⟨gS, 14, none⟩ = some (.slice a0 m cap0))) (by kernel_rfl) (by (refine KEEP1.out _ ?_; (repeat' (first | (with_reducible exact Only.refl _ _) | (with_reducible refine Only.drew ?_) | (with_reducible refine Only.alloc ?_ _) | (with_reducible assumption))))) (fun hHeld => ?_)
    refine wpAnyH_take (i := 0) (oi := ⟨_, _, _, _, _, _⟩) (v := ?_) rfl (by kernel_rfl) (by kernel_rfl) (by kernel_rfl) (fun _ _ _ h => h) (Or.inl ⟨by rfl, ?_⟩) hHeld ?_
    rotate_left
    · (intro w hSw; (try dsimp only at hSw); go_simp) <;> with_reducible rfl
    try simp only [Act.put, List.setIfInBounds_toArray, List.set_cons_zero, List.set_cons_succ]
    refine wpAnyH_take (i := 1) (oi := ⟨_, _, _, _, _, _⟩) (v := ?_) rfl (by kernel_rfl) (by kernel_rfl) (by kernel_rfl) (fun _ _ _ h => h) (Or.inl ⟨by rfl, ?_⟩) hHeld ?_
    rotate_left
    · (intro w hSw; (try dsimp only at hSw); go_simp) <;> with_reducible rfl
    try simp only [Act.put, List.setIfInBounds_toArray, List.set_cons_zero, List.set_cons_succ]
    refine wpAnyH_take (i := 2) (oi := ⟨_, _, _, _, _, _⟩) (v := ?_) rfl (by kernel_rfl) (by kernel_rfl) (by kernel_rfl) (fun _ _ _ h => h) (Or.inl ⟨by rfl, ?_⟩) hHeld ?_
    rotate_left
    · (intro w hSw; (try dsimp only at hSw); go_simp) <;> with_reducible rfl
    try simp only [Act.put, List.setIfInBounds_toArray, List.set_cons_zero, List.set_cons_succ]
    refine wpAnyH_take (i := 3) (oi := ⟨_, _, _, _, _, _⟩) (v := ?_) rfl (by kernel_rfl) (by kernel_rfl) (by kernel_rfl) (fun _ _ _ h => h) (Or.inl ⟨by rfl, ?_⟩) hHeld ?_
    rotate_left
    · (intro w hSw; (try dsimp only at hSw); go_simp) <;> with_reducible rfl
    try simp only [Act.put, List.setIfInBounds_toArray, List.set_cons_zero, List.set_cons_succ]
    refine wpAnyH_take (i := 5) (oi := ⟨_, _, _, _, _, _⟩) (v := ?_) rfl (by kernel_rfl) (by kernel_rfl) (by kernel_rfl) (fun _ _ _ h => h) (Or.inl ⟨by rfl, ?_⟩) hHeld ?_
    rotate_left
    · (intro w hSw; (try dsimp only at hSw); go_simp) <;> with_reducible rfl
    try simp only [Act.put, List.setIfInBounds_toArray, List.set_cons_zero, List.set_cons_succ]
    refine wpAnyH_take (i := 6) (oi := ⟨_, _, _, _, _, _⟩) (v := ?_) rfl (by kernel_rfl) (by kernel_rfl) (by kernel_rfl) (fun _ _ _ h => h) (Or.inl ⟨by rfl, ?_⟩) hHeld ?_
    rotate_left
    · (intro w hSw; (try dsimp only at hSw); go_simp) <;> with_reducible rfl
    try simp only [Act.put, List.setIfInBounds_toArray, List.set_cons_zero, List.set_cons_succ]
    refine wpAnyH_take (i := 7) (oi := ⟨_, _, _, _, _, _⟩) (v := ?_) rfl (by kernel_rfl) (by kernel_rfl) (by kernel_rfl) (fun _ _ _ h => h) (Or.inl ⟨by rfl, ?_⟩) hHeld ?_
    rotate_left
    · (intro w hSw; (try dsimp only at hSw); go_simp) <;> with_reducible rfl
    try simp only [Act.put, List.setIfInBounds_toArray, List.set_cons_zero, List.set_cons_succ]
    refine wpAnyH_take (i := 8) (oi := ⟨_, _, _, _, _, _⟩) (v := ?_) rfl (by kernel_rfl) (by kernel_rfl) (by kernel_rfl) (fun _ _ _ h => h) (Or.inl ⟨by rfl, ?_⟩) hHeld ?_
    rotate_left
    · (intro w hSw; (try dsimp only at hSw); go_simp) <;> with_reducible rfl
    try simp only [Act.put, List.setIfInBounds_toArray, List.set_cons_zero, List.set_cons_succ]
    refine wpAnyH_take (i := 10) (oi := ⟨_, _, _, _, _, _⟩) (v := ?_) rfl (by kernel_rfl) (by kernel_rfl) (by kernel_rfl) (fun _ _ _ h => h) (Or.inl ⟨by rfl, ?_⟩) hHeld ?_
    rotate_left
    · (intro w hSw; (try dsimp only at hSw); go_simp) <;> with_reducible rfl
    try simp only [Act.put, List.setIfInBounds_toArray, List.set_cons_zero, List.set_cons_succ]
    refine wpAnyH_take (i := 11) (oi := ⟨_, _, _, _, _, _⟩) (v := ?_) rfl (by kernel_rfl) (by kernel_rfl) (by kernel_rfl) (fun _ _ _ h => h) (Or.inl ⟨by rfl, ?_⟩) hHeld ?_
    rotate_left
    · (intro w hSw; (try dsimp only at hSw); go_simp) <;> with_reducible rfl
    try simp only [Act.put, List.setIfInBounds_toArray, List.set_cons_zero, List.set_cons_succ]
    refine wpAnyH_take (i := 12) (oi := ⟨_, _, _, _, _, _⟩) (v := ?_) rfl (by kernel_rfl) (by kernel_rfl) (by kernel_rfl) (fun _ _ _ h => h) (Or.inl ⟨by rfl, ?_⟩) hHeld ?_
    rotate_left
    · (intro w hSw; (try dsimp only at hSw); go_simp) <;> with_reducible rfl
    try simp only [Act.put, List.setIfInBounds_toArray, List.set_cons_zero, List.set_cons_succ]
    refine wpAnyH_take (i := 14) (oi := ⟨_, _, _, _, _, _⟩) (v := ?_) rfl (by kernel_rfl) (by kernel_rfl) (by kernel_rfl) (fun _ _ _ h => h) (Or.inl ⟨by rfl, ?_⟩) hHeld ?_
    rotate_left
    · (intro w hSw; (try dsimp only at hSw); go_simp) <;> with_reducible rfl
    try simp only [Act.put, List.setIfInBounds_toArray, List.set_cons_zero, List.set_cons_succ]
    refine wpAnyH_take (i := 15) (oi := ⟨_, _, _, _, _, _⟩) (v := ?_) rfl (by kernel_rfl) (by kernel_rfl) (by kernel_rfl) (fun _ _ _ h => h) (Or.inl ⟨by rfl, ?_⟩) hHeld ?_
    rotate_left
    · (intro w hSw; (try dsimp only at hSw); go_simp) <;> with_reducible rfl
    try simp only [Act.put, List.setIfInBounds_toArray, List.set_cons_zero, List.set_cons_succ]
    refine wpAnyH_take (i := 16) (oi := ⟨_, _, _, _, _, _⟩) (v := ?_) rfl (by kernel_rfl) (by kernel_rfl) (by kernel_rfl) (fun _ _ _ h => h) (Or.inl ⟨by rfl, ?_⟩) hHeld ?_
    rotate_left
    · (intro w hSw; (try dsimp only at hSw); go_simp) <;> with_reducible rfl
    try simp only [Act.put, List.setIfInBounds_toArray, List.set_cons_zero, List.set_cons_succ]
    refine wpAnyH_take (i := 17) (oi := ⟨_, _, _, _, _, _⟩) (v := ?_) rfl (by kernel_rfl) (by kernel_rfl) (by kernel_rfl) (fun _ _ _ h => h) (Or.inl ⟨by rfl, ?_⟩) hHeld ?_
    rotate_left
    · (intro w hSw; (try dsimp only at hSw); go_simp) <;> with_reducible rfl
    try simp only [Act.put, List.setIfInBounds_toArray, List.set_cons_zero, List.set_cons_succ]
    refine wpAnyH_take (i := 19) (oi := ⟨_, _, _, _, _, _⟩) (v := ?_) rfl (by kernel_rfl) (by kernel_rfl) (by kernel_rfl) (fun _ _ _ h => h) (Or.inl ⟨by rfl, ?_⟩) hHeld ?_
    rotate_left
    · (intro w hSw; (try dsimp only at hSw); go_simp) <;> with_reducible rfl
    try simp only [Act.put, List.setIfInBounds_toArray, List.set_cons_zero, List.set_cons_succ]
    refine wpAnyH_take (i := 20) (oi := ⟨_, _, _, _, _, _⟩) (v := ?_) rfl (by kernel_rfl) (by kernel_rfl) (by kernel_rfl) (fun _ _ _ h => h) (Or.inl ⟨by rfl, ?_⟩) hHeld ?_
    rotate_left
    · (intro w hSw; (try dsimp only at hSw); go_simp) <;> with_reducible rfl
    try simp only [Act.put, List.setIfInBounds_toArray, List.set_cons_zero, List.set_cons_succ]
    refine wpAnyH_take (i := 21) (oi := ⟨_, _, _, _, _, _⟩) (v := ?_) rfl (by kernel_rfl) (by kernel_rfl) (by kernel_rfl) (fun _ _ _ h => h) (Or.inl ⟨by rfl, ?_⟩) hHeld ?_
    rotate_left
    · (intro w hSw; (try dsimp only at hSw); go_simp) <;> with_reducible rfl
    try simp only [Act.put, List.setIfInBounds_toArray, List.set_cons_zero, List.set_cons_succ]
    refine wpAnyH_ready (rs := [4, 24]) (by kernel_rfl) (by simp) ?_
    refine AllReadyH.cons (o := ⟨_, _, _, _, _, _⟩) rfl (fun K hK => ?_) ?_
    · clear hHeld
      go_simp
      go_at_call 34
      refine (Y0.out _ (by (repeat' (first | (with_reducible exact Only.refl _ _) | (with_reducible refine Only.drew ?_) | (with_reducible refine Only.alloc ?_ _) | (with_reducible assumption))))).mono ?_
      rintro e v1 ⟨rfl, hO1, hk1⟩
      have hz1 : w1.heap.size ≤ v1.heap.size := hO1.size
      refine hK.out _ _ (by (refine KEEP1.out _ ?_; (repeat' (first | (with_reducible exact Only.refl _ _) | (with_reducible refine Only.drew ?_) | (with_reducible refine Only.alloc ?_ _) | (with_reducible assumption))))) (fun hHeld => ?_)
      clear hK K
      try simp only [Act.put, List.setIfInBounds_toArray, List.set_cons_zero, List.set_cons_succ]
      refine wpAnyH_ready (rs := [9, 24]) (by kernel_rfl) (by simp) ?_
      refine AllReadyH.cons (o := ⟨_, _, _, _, _, _⟩) rfl (fun K hK => ?_) ?_
      · clear hHeld
        go_simp
        go_at_call 35
        refine (Y1.out _ (by (repeat' (first | (with_reducible exact Only.refl _ _) | (with_reducible refine Only.drew ?_) | (with_reducible refine Only.alloc ?_ _) | (with_reducible assumption))))).mono ?_
        rintro e v2 ⟨rfl, hO2, hk2⟩
        have hz2 : w1.heap.size ≤ v2.heap.size := hO2.size
        refine hK.out _ _ (by (refine KEEP1.out _ ?_; (repeat' (first | (with_reducible exact Only.refl _ _) | (with_reducible refine Only.drew ?_) | (with_reducible refine Only.alloc ?_ _) | (with_reducible assumption))))) (fun hHeld => ?_)
        clear hK K
        try simp only [Act.put, List.setIfInBounds_toArray, List.set_cons_zero, List.set_cons_succ]
        refine wpAnyH_ready (rs := [13, 24]) (by kernel_rfl) (by simp) ?_
        refine AllReadyH.cons (o := ⟨_, _, _, _, _, _⟩) rfl (fun K hK => ?_) ?_
        · clear hHeld
          go_simp
          go_at_call 36
          refine (Y2.out _ (by (repeat' (first | (with_reducible exact Only.refl _ _) | (with_reducible refine Only.drew ?_) | (with_reducible refine Only.alloc ?_ _) | (with_reducible assumption))))).mono ?_
          rintro e v3 ⟨rfl, hO3, hk3⟩
          have hz3 : w1.heap.size ≤ v3.heap.size := hO3.size
          refine hK.out _ _ (by (refine KEEP1.out _ ?_; (repeat' (first | (with_reducible exact Only.refl _ _) | (with_reducible refine Only.drew ?_) | (with_reducible refine Only.alloc ?_ _) | (with_reducible assumption))))) (fun hHeld => ?_)
          clear hK K
          try simp only [Act.put, List.setIfInBounds_toArray, List.set_cons_zero, List.set_cons_succ]
          refine wpAnyH_ready (rs := [18, 24]) (by kernel_rfl) (by simp) ?_
          refine AllReadyH.cons (o := ⟨_, _, _, _, _, _⟩) rfl (fun K hK => ?_) ?_
          · clear hHeld
            go_simp
            go_at_call 37
            refine (Y3.out _ (by (repeat' (first | (with_reducible exact Only.refl _ _) | (with_reducible refine Only.drew ?_) | (with_reducible refine Only.alloc ?_ _) | (with_reducible assumption))))).mono ?_
            rintro e v4 ⟨rfl, hO4, hk4⟩
            have hz4 : w1.heap.size ≤ v4.heap.size := hO4.size
            refine hK.out _ _ (by (refine KEEP1.out _ ?_; (repeat' (first | (with_reducible exact Only.refl _ _) | (with_reducible refine Only.drew ?_) | (with_reducible refine Only.alloc ?_ _) | (with_reducible assumption))))) (fun hHeld => ?_)
            clear hK K
            try simp only [Act.put, List.setIfInBounds_toArray, List.set_cons_zero, List.set_cons_succ]
            refine wpAnyH_ready (rs := [22, 24]) (by kernel_rfl) (by simp) ?_
            refine AllReadyH.cons (o := ⟨_, _, _, _, _, _⟩) rfl (fun K hK => ?_) ?_
            · clear hHeld
              go_simp
              go_at_call 36
              refine (Y4.out _ (by (repeat' (first | (with_reducible exact Only.refl _ _) | (with_reducible refine Only.drew ?_) | (with_reducible refine Only.alloc ?_ _) | (with_reducible assumption))))).mono ?_
              rintro e v5 ⟨rfl, hO5, hk5⟩
              have hz5 : w1.heap.size ≤ v5.heap.size := hO5.size
              refine hK.out _ _ (by (refine KEEP1.out _ ?_; (repeat' (first | (with_reducible exact Only.refl _ _) | (with_reducible refine Only.drew ?_) | (with_reducible refine Only.alloc ?_ _) | (with_reducible assumption))))) (fun hHeld => ?_)
              clear hK K
              try simp only [Act.put, List.setIfInBounds_toArray, List.set_cons_zero, List.set_cons_succ]
              refine wpAnyH_take (i := 23) (oi := ⟨_, _, _, _, _, _⟩) (v := ?_) rfl (by kernel_rfl) (by kernel_rfl) (by kernel_rfl) (fun _ _ _ h => h) (Or.inl ⟨by rfl, ?_⟩) hHeld ?_
              rotate_left
              · (intro w hSw; (try dsimp only at hSw); go_simp) <;> with_reducible rfl
              try simp only [Act.put, List.setIfInBounds_toArray, List.set_cons_zero, List.set_cons_succ]
              refine wpAnyH_ready (rs := [24]) (by kernel_rfl) (by simp) ?_
              refine AllReadyH.cons (o := ⟨_, _, _, _, _, _⟩) rfl (fun K hK => ?_) AllReadyH.nil
              clear hHeld
              go_simp
              refine hK.out _ _ (by (refine KEEP1.out _ ?_; (repeat' (first | (with_reducible exact Only.refl _ _) | (with_reducible refine Only.drew ?_) | (with_reducible refine Only.alloc ?_ _) | (with_reducible assumption))))) (fun hHeld => ?_)
              clear hK K
              try simp only [Act.put, List.setIfInBounds_toArray, List.set_cons_zero, List.set_cons_succ]
              refine wpAnyH_ready (rs := [25]) (by kernel_rfl) (by simp) ?_
              refine AllReadyH.cons (o := ⟨_, _, _, _, _, _⟩) rfl (fun K hK => ?_) AllReadyH.nil
              clear hHeld
              go_simp
              refine hK.out _ _ (by (refine KEEP1.out _ ?_; (repeat' (first | (with_reducible exact Only.refl _ _) | (with_reducible refine Only.drew ?_) | (with_reducible refine Only.alloc ?_ _) | (with_reducible assumption))))) (fun hHeld => ?_)
              clear hK K
              try simp only [Act.put, List.setIfInBounds_toArray, List.set_cons_zero, List.set_cons_succ]
              refine wpAnyH_done (by kernel_rfl) ?_ _
              go_wp2_with fail
              go_meet
              case rel => exact ⟨_, rfl, hz5, Only.nil (by (repeat' (first | (with_reducible exact Only.refl _ _) | (with_reducible refine Only.drew ?_) | (with_reducible refine Only.alloc ?_ _) | (with_reducible assumption)))), Blk.new _ _ _⟩
            · refine AllReadyH.cons (o := ⟨_, _, _, _, _, _⟩) rfl (fun K hK => ?_) AllReadyH.nil
              clear hHeld
              go_simp
              refine hK.out _ _ (by (refine KEEP1.out _ ?_; (repeat' (first | (with_reducible exact Only.refl _ _) | (with_reducible refine Only.drew ?_) | (with_reducible refine Only.alloc ?_ _) | (with_reducible assumption))))) (fun hHeld => ?_)
              clear hK K
              try simp only [Act.put, List.setIfInBounds_toArray, List.set_cons_zero, List.set_cons_succ]
              refine wpAnyH_ready (rs := [22]) (by kernel_rfl) (by simp) ?_
              refine AllReadyH.cons (o := ⟨_, _, _, _, _, _⟩) rfl (fun K hK => ?_) AllReadyH.nil
              clear hHeld
              go_simp
              go_at_call 36
              refine (Y4.out _ (by (repeat' (first | (with_reducible exact Only.refl _ _) | (with_reducible refine Only.drew ?_) | (with_reducible refine Only.alloc ?_ _) | (with_reducible assumption))))).mono ?_
              rintro e v5 ⟨rfl, hO5, hk5⟩
              have hb5 := hk5 _ _ _ (Blk.new v4 _ _)
              refine hK.out _ _ (by (refine KEEP1.out _ ?_; (repeat' (first | (with_reducible exact Only.refl _ _) | (with_reducible refine Only.drew ?_) | (with_reducible refine Only.alloc ?_ _) | (with_reducible assumption))))) (fun hHeld => ?_)
              clear hK K
              try simp only [Act.put, List.setIfInBounds_toArray, List.set_cons_zero, List.set_cons_succ]
              refine wpAnyH_take (i := 23) (oi := ⟨_, _, _, _, _, _⟩) (v := ?_) rfl (by kernel_rfl) (by kernel_rfl) (by kernel_rfl) (fun _ _ _ h => h) (Or.inl ⟨by rfl, ?_⟩) hHeld ?_
              rotate_left
              · (intro w hSw; (try dsimp only at hSw); go_simp) <;> with_reducible rfl
              try simp only [Act.put, List.setIfInBounds_toArray, List.set_cons_zero, List.set_cons_succ]
              obtain ⟨q0, q1, q2, q3, q4, q5, q6⟩ := blk7 hb5
              have qf := hb5.free
              have ql := hb5.lt
              have hle : w1.heap.size ≤ v4.heap.size := by first | exact Nat.le_refl _ | assumption
              refine wpAnyH_ready (rs := [25]) (by kernel_rfl) (by simp) ?_
              refine AllReadyH.cons (o := ⟨_, _, _, _, _, _⟩) rfl (fun K hK => ?_) AllReadyH.nil
              clear hHeld
              go_simp
              refine hK.out _ _ (KEEP1.out _ (only7 hO5 hle _ _ _ _ _ _ _)) (fun hHeld => ?_)
              clear hK K
              try simp only [Act.put, List.setIfInBounds_toArray, List.set_cons_zero, List.set_cons_succ]
              refine wpAnyH_done (by kernel_rfl) ?_ _
              go_wp2_with fail
              go_meet
              case rel => exact ⟨_, rfl, hle, Only.nil (only7 hO5 hle _ _ _ _ _ _ _), put7 hb5 _ _ _ _ _ _ _⟩
          · refine AllReadyH.cons (o := ⟨_, _, _, _, _, _⟩) rfl (fun K hK => ?_) AllReadyH.nil
            clear hHeld
            go_simp
            refine hK.out _ _ (by (refine KEEP1.out _ ?_; (repeat' (first | (with_reducible exact Only.refl _ _) | (with_reducible refine Only.drew ?_) | (with_reducible refine Only.alloc ?_ _) | (with_reducible assumption))))) (fun hHeld => ?_)
            clear hK K
            try simp only [Act.put, List.setIfInBounds_toArray, List.set_cons_zero, List.set_cons_succ]
            refine wpAnyH_ready (rs := [18]) (by kernel_rfl) (by simp) ?_
            refine AllReadyH.cons (o := ⟨_, _, _, _, _, _⟩) rfl (fun K hK => ?_) AllReadyH.nil
            clear hHeld
            go_simp
            go_at_call 37
            refine (Y3.out _ (by (repeat' (first | (with_reducible exact Only.refl _ _) | (with_reducible refine Only.drew ?_) | (with_reducible refine Only.alloc ?_ _) | (with_reducible assumption))))).mono ?_
            rintro e v4 ⟨rfl, hO4, hk4⟩
            have hb4 := hk4 _ _ _ (Blk.new v3 _ _)
            refine hK.out _ _ (by (refine KEEP1.out _ ?_; (repeat' (first | (with_reducible exact Only.refl _ _) | (with_reducible refine Only.drew ?_) | (with_reducible refine Only.alloc ?_ _) | (with_reducible assumption))))) (fun hHeld => ?_)
            clear hK K
            try simp only [Act.put, List.setIfInBounds_toArray, List.set_cons_zero, List.set_cons_succ]
            refine wpAnyH_ready (rs := [22]) (by kernel_rfl) (by simp) ?_
            refine AllReadyH.cons (o := ⟨_, _, _, _, _, _⟩) rfl (fun K hK => ?_) AllReadyH.nil
            clear hHeld
            go_simp
            go_at_call 36
            refine (Y4.out _ (by (repeat' (first | (with_reducible exact Only.refl _ _) | (with_reducible refine Only.drew ?_) | (with_reducible refine Only.alloc ?_ _) | (with_reducible assumption))))).mono ?_
            rintro e v5 ⟨rfl, hO5, hk5⟩
            have hb5 := hk5 _ _ _ hb4
            refine hK.out _ _ (by (refine KEEP1.out _ ?_; (repeat' (first | (with_reducible exact Only.refl _ _) | (with_reducible refine Only.drew ?_) | (with_reducible refine Only.alloc ?_ _) | (with_reducible assumption))))) (fun hHeld => ?_)
            clear hK K
            try simp only [Act.put, List.setIfInBounds_toArray, List.set_cons_zero, List.set_cons_succ]
            refine wpAnyH_take (i := 23) (oi := ⟨_, _, _, _, _, _⟩) (v := ?_) rfl (by kernel_rfl) (by kernel_rfl) (by kernel_rfl) (fun _ _ _ h => h) (Or.inl ⟨by rfl, ?_⟩) hHeld ?_
            rotate_left
            · (intro w hSw; (try dsimp only at hSw); go_simp) <;> with_reducible rfl
            try simp only [Act.put, List.setIfInBounds_toArray, List.set_cons_zero, List.set_cons_succ]
            obtain ⟨q0, q1, q2, q3, q4, q5, q6⟩ := blk7 hb5
            have qf := hb5.free
            have ql := hb5.lt
            have hle : w1.heap.size ≤ v3.heap.size := by first | exact Nat.le_refl _ | assumption
            refine wpAnyH_ready (rs := [25]) (by kernel_rfl) (by simp) ?_
            refine AllReadyH.cons (o := ⟨_, _, _, _, _, _⟩) rfl (fun K hK => ?_) AllReadyH.nil
            clear hHeld
            go_simp
            refine hK.out _ _ (KEEP1.out _ (only7 hO5 hle _ _ _ _ _ _ _)) (fun hHeld => ?_)
            clear hK K
            try simp only [Act.put, List.setIfInBounds_toArray, List.set_cons_zero, List.set_cons_succ]
            refine wpAnyH_done (by kernel_rfl) ?_ _
            go_wp2_with fail
            go_meet
            case rel => exact ⟨_, rfl, hle, Only.nil (only7 hO5 hle _ _ _ _ _ _ _), put7 hb5 _ _ _ _ _ _ _⟩
        · refine AllReadyH.cons (o := ⟨_, _, _, _, _, _⟩) rfl (fun K hK => ?_) AllReadyH.nil
          clear hHeld
          go_simp
          refine hK.out _ _ (by (refine KEEP1.out _ ?_; (repeat' (first | (with_reducible exact Only.refl _ _) | (with_reducible refine Only.drew ?_) | (with_reducible refine Only.alloc ?_ _) | (with_reducible assumption))))) (fun hHeld => ?_)
          clear hK K
          try simp only [Act.put, List.setIfInBounds_toArray, List.set_cons_zero, List.set_cons_succ]
          refine wpAnyH_ready (rs := [13]) (by kernel_rfl) (by simp) ?_
          refine AllReadyH.cons (o := ⟨_, _, _, _, _, _⟩) rfl (fun K hK => ?_) AllReadyH.nil
          clear hHeld
          go_simp
          go_at_call 36
          refine (Y2.out _ (by (repeat' (first | (with_reducible exact Only.refl _ _) | (with_reducible refine Only.drew ?_) | (with_reducible refine Only.alloc ?_ _) | (with_reducible assumption))))).mono ?_
          rintro e v3 ⟨rfl, hO3, hk3⟩
          have hb3 := hk3 _ _ _ (Blk.new v2 _ _)
          refine hK.out _ _ (by (refine KEEP1.out _ ?_; (repeat' (first | (with_reducible exact Only.refl _ _) | (with_reducible refine Only.drew ?_) | (with_reducible refine Only.alloc ?_ _) | (with_reducible assumption))))) (fun hHeld => ?_)
          clear hK K
          try simp only [Act.put, List.setIfInBounds_toArray, List.set_cons_zero, List.set_cons_succ]
          refine wpAnyH_ready (rs := [18]) (by kernel_rfl) (by simp) ?_
          refine AllReadyH.cons (o := ⟨_, _, _, _, _, _⟩) rfl (fun K hK => ?_) AllReadyH.nil
          clear hHeld
          go_simp
          go_at_call 37
          refine (Y3.out _ (by (repeat' (first | (with_reducible exact Only.refl _ _) | (with_reducible refine Only.drew ?_) | (with_reducible refine Only.alloc ?_ _) | (with_reducible assumption))))).mono ?_
          rintro e v4 ⟨rfl, hO4, hk4⟩
          have hb4 := hk4 _ _ _ hb3
          refine hK.out _ _ (by (refine KEEP1.out _ ?_; (repeat' (first | (with_reducible exact Only.refl _ _) | (with_reducible refine Only.drew ?_) | (with_reducible refine Only.alloc ?_ _) | (with_reducible assumption))))) (fun hHeld => ?_)
          clear hK K
          try simp only [Act.put, List.setIfInBounds_toArray, List.set_cons_zero, List.set_cons_succ]
          refine wpAnyH_ready (rs := [22]) (by kernel_rfl) (by simp) ?_
          refine AllReadyH.cons (o := ⟨_, _, _, _, _, _⟩) rfl (fun K hK => ?_) AllReadyH.nil
          clear hHeld
          go_simp
          go_at_call 36
          refine (Y4.out _ (by (repeat' (first | (with_reducible exact Only.refl _ _) | (with_reducible refine Only.drew ?_) | (with_reducible refine Only.alloc ?_ _) | (with_reducible assumption))))).mono ?_
          rintro e v5 ⟨rfl, hO5, hk5⟩
          have hb5 := hk5 _ _ _ hb4
          refine hK.out _ _ (by (refine KEEP1.out _ ?_; (repeat' (first | (with_reducible exact Only.refl _ _) | (with_reducible refine Only.drew ?_) | (with_reducible refine Only.alloc ?_ _) | (with_reducible assumption))))) (fun hHeld => ?_)
          clear hK K
          try simp only [Act.put, List.setIfInBounds_toArray, List.set_cons_zero, List.set_cons_succ]
          refine wpAnyH_take (i := 23) (oi := ⟨_, _, _, _, _, _⟩) (v := ?_) rfl (by kernel_rfl) (by kernel_rfl) (by kernel_rfl) (fun _ _ _ h => h) (Or.inl ⟨by rfl, ?_⟩) hHeld ?_
          rotate_left
          · (intro w hSw; (try dsimp only at hSw); go_simp) <;> with_reducible rfl
          try simp only [Act.put, List.setIfInBounds_toArray, List.set_cons_zero, List.set_cons_succ]
          obtain ⟨q0, q1, q2, q3, q4, q5, q6⟩ := blk7 hb5
          have qf := hb5.free
          have ql := hb5.lt
          have hle : w1.heap.size ≤ v2.heap.size := by first | exact Nat.le_refl _ | assumption
          refine wpAnyH_ready (rs := [25]) (by kernel_rfl) (by simp) ?_
          refine AllReadyH.cons (o := ⟨_, _, _, _, _, _⟩) rfl (fun K hK => ?_) AllReadyH.nil
          clear hHeld
          go_simp
          refine hK.out _ _ (KEEP1.out _ (only7 hO5 hle _ _ _ _ _ _ _)) (fun hHeld => ?_)
          clear hK K
          try simp only [Act.put, List.setIfInBounds_toArray, List.set_cons_zero, List.set_cons_succ]
          refine wpAnyH_done (by kernel_rfl) ?_ _
          go_wp2_with fail
          go_meet
          case rel => exact ⟨_, rfl, hle, Only.nil (only7 hO5 hle _ _ _ _ _ _ _), put7 hb5 _ _ _ _ _ _ _⟩
      · refine AllReadyH.cons (o := ⟨_, _, _, _, _, _⟩) rfl (fun K hK => ?_) AllReadyH.nil
        clear hHeld
        go_simp
        refine hK.out _ _ (by (refine KEEP1.out _ ?_; (repeat' (first | (with_reducible exact Only.refl _ _) | (with_reducible refine Only.drew ?_) | (with_reducible refine Only.alloc ?_ _) | (with_reducible assumption))))) (fun hHeld => ?_)
        clear hK K
        try simp only [Act.put, List.setIfInBounds_toArray, List.set_cons_zero, List.set_cons_succ]
        refine wpAnyH_ready (rs := [9]) (by kernel_rfl) (by simp) ?_
        refine AllReadyH.cons (o := ⟨_, _, _, _, _, _⟩) rfl (fun K hK => ?_) AllReadyH.nil
        clear hHeld
        go_simp
        go_at_call 35
        refine (Y1.out _ (by (repeat' (first | (with_reducible exact Only.refl _ _) | (with_reducible refine Only.drew ?_) | (with_reducible refine Only.alloc ?_ _) | (with_reducible assumption))))).mono ?_
        rintro e v2 ⟨rfl, hO2, hk2⟩
        have hb2 := hk2 _ _ _ (Blk.new v1 _ _)
        refine hK.out _ _ (by (refine KEEP1.out _ ?_; (repeat' (first | (with_reducible exact Only.refl _ _) | (with_reducible refine Only.drew ?_) | (with_reducible refine Only.alloc ?_ _) | (with_reducible assumption))))) (fun hHeld => ?_)
        clear hK K
        try simp only [Act.put, List.setIfInBounds_toArray, List.set_cons_zero, List.set_cons_succ]
        refine wpAnyH_ready (rs := [13]) (by kernel_rfl) (by simp) ?_
        refine AllReadyH.cons (o := ⟨_, _, _, _, _, _⟩) rfl (fun K hK => ?_) AllReadyH.nil
        clear hHeld
        go_simp
        go_at_call 36
        refine (Y2.out _ (by (repeat' (first | (with_reducible exact Only.refl _ _) | (with_reducible refine Only.drew ?_) | (with_reducible refine Only.alloc ?_ _) | (with_reducible assumption))))).mono ?_
        rintro e v3 ⟨rfl, hO3, hk3⟩
        have hb3 := hk3 _ _ _ hb2
        refine hK.out _ _ (by (refine KEEP1.out _ ?_; (repeat' (first | (with_reducible exact Only.refl _ _) | (with_reducible refine Only.drew ?_) | (with_reducible refine Only.alloc ?_ _) | (with_reducible assumption))))) (fun hHeld => ?_)
        clear hK K
        try simp only [Act.put, List.setIfInBounds_toArray, List.set_cons_zero, List.set_cons_succ]
        refine wpAnyH_ready (rs := [18]) (by kernel_rfl) (by simp) ?_
        refine AllReadyH.cons (o := ⟨_, _, _, _, _, _⟩) rfl (fun K hK => ?_) AllReadyH.nil
        clear hHeld
        go_simp
        go_at_call 37
        refine (Y3.out _ (by (repeat' (first | (with_reducible exact Only.refl _ _) | (with_reducible refine Only.drew ?_) | (with_reducible refine Only.alloc ?_ _) | (with_reducible assumption))))).mono ?_
        rintro e v4 ⟨rfl, hO4, hk4⟩
        have hb4 := hk4 _ _ _ hb3
        refine hK.out _ _ (by (refine KEEP1.out _ ?_; (repeat' (first | (with_reducible exact Only.refl _ _) | (with_reducible refine Only.drew ?_) | (with_reducible refine Only.alloc ?_ _) | (with_reducible assumption))))) (fun hHeld => ?_)
        clear hK K
        try simp only [Act.put, List.setIfInBounds_toArray, List.set_cons_zero, List.set_cons_succ]
        refine wpAnyH_ready (rs := [22]) (by kernel_rfl) (by simp) ?_
        refine AllReadyH.cons (o := ⟨_, _, _, _, _, _⟩) rfl (fun K hK => ?_) AllReadyH.nil
        clear hHeld
        go_simp
        go_at_call 36
        refine (Y4.out _ (by (repeat' (first | (with_reducible exact Only.refl _ _) | (with_reducible refine Only.drew ?_) | (with_reducible refine Only.alloc ?_ _) | (with_reducible assumption))))).mono ?_
        rintro e v5 ⟨rfl, hO5, hk5⟩
        have hb5 := hk5 _ _ _ hb4
        refine hK.out _ _ (by (refine KEEP1.out _ ?_; (repeat' (first | (with_reducible exact Only.refl _ _) | (with_reducible refine Only.drew ?_) | (with_reducible refine Only.alloc ?_ _) | (with_reducible assumption))))) (fun hHeld => ?_)
        clear hK K
        try simp only [Act.put, List.setIfInBounds_toArray, List.set_cons_zero, List.set_cons_succ]
        refine wpAnyH_take (i := 23) (oi := ⟨_, _, _, _, _, _⟩) (v := ?_) rfl (by kernel_rfl) (by kernel_rfl) (by kernel_rfl) (fun _ _ _ h => h) (Or.inl ⟨by rfl, ?_⟩) hHeld ?_
        rotate_left
        · (intro w hSw; (try dsimp only at hSw); go_simp) <;> with_reducible rfl
        try simp only [Act.put, List.setIfInBounds_toArray, List.set_cons_zero, List.set_cons_succ]
        obtain ⟨q0, q1, q2, q3, q4, q5, q6⟩ := blk7 hb5
        have qf := hb5.free
        have ql := hb5.lt
        have hle : w1.heap.size ≤ v1.heap.size := by first | exact Nat.le_refl _ | assumption
        refine wpAnyH_ready (rs := [25]) (by kernel_rfl) (by simp) ?_
        refine AllReadyH.cons (o := ⟨_, _, _, _, _, _⟩) rfl (fun K hK => ?_) AllReadyH.nil
        clear hHeld
        go_simp
        refine hK.out _ _ (KEEP1.out _ (only7 hO5 hle _ _ _ _ _ _ _)) (fun hHeld => ?_)
        clear hK K
        try simp only [Act.put, List.setIfInBounds_toArray, List.set_cons_zero, List.set_cons_succ]
        refine wpAnyH_done (by kernel_rfl) ?_ _
        go_wp2_with fail
        go_meet
        case rel => exact ⟨_, rfl, hle, Only.nil (only7 hO5 hle _ _ _ _ _ _ _), put7 hb5 _ _ _ _ _ _ _⟩
    · refine AllReadyH.cons (o := ⟨_, _, _, _, _, _⟩) rfl (fun K hK => ?_) AllReadyH.nil
      clear hHeld
      go_simp
      refine hK.out _ _ (by (refine KEEP1.out _ ?_; (repeat' (first | (with_reducible exact Only.refl _ _) | (with_reducible refine Only.drew ?_) | (with_reducible refine Only.alloc ?_ _) | (with_reducible assumption))))) (fun hHeld => ?_)
      clear hK K
      try simp only [Act.put, List.setIfInBounds_toArray, List.set_cons_zero, List.set_cons_succ]
      refine wpAnyH_ready (rs := [4]) (by kernel_rfl) (by simp) ?_
      refine AllReadyH.cons (o := ⟨_, _, _, _, _, _⟩) rfl (fun K hK => ?_) AllReadyH.nil
      clear hHeld
      go_simp
      go_at_call 34
      refine (Y0.out _ (by (repeat' (first | (with_reducible exact Only.refl _ _) | (with_reducible refine Only.drew ?_) | (with_reducible refine Only.alloc ?_ _) | (with_reducible assumption))))).mono ?_
      rintro e v1 ⟨rfl, hO1, hk1⟩
      have hb1 := hk1 _ _ _ (Blk.drew (Blk.new w1 _ _))
      refine hK.out _ _ (by (refine KEEP1.out _ ?_; (repeat' (first | (with_reducible exact Only.refl _ _) | (with_reducible refine Only.drew ?_) | (with_reducible refine Only.alloc ?_ _) | (with_reducible assumption))))) (fun hHeld => ?_)
      clear hK K
      try simp only [Act.put, List.setIfInBounds_toArray, List.set_cons_zero, List.set_cons_succ]
      refine wpAnyH_ready (rs := [9]) (by kernel_rfl) (by simp) ?_
      refine AllReadyH.cons (o := ⟨_, _, _, _, _, _⟩) rfl (fun K hK => ?_) AllReadyH.nil
      clear hHeld
      go_simp
      go_at_call 35
      refine (Y1.out _ (by (repeat' (first | (with_reducible exact Only.refl _ _) | (with_reducible refine Only.drew ?_) | (with_reducible refine Only.alloc ?_ _) | (with_reducible assumption))))).mono ?_
      rintro e v2 ⟨rfl, hO2, hk2⟩
      have hb2 := hk2 _ _ _ hb1
      refine hK.out _ _ (by (refine KEEP1.out _ ?_; (repeat' (first | (with_reducible exact Only.refl _ _) | (with_reducible refine Only.drew ?_) | (with_reducible refine Only.alloc ?_ _) | (with_reducible assumption))))) (fun hHeld => ?_)
      clear hK K
      try simp only [Act.put, List.setIfInBounds_toArray, List.set_cons_zero, List.set_cons_succ]
      refine wpAnyH_ready (rs := [13]) (by kernel_rfl) (by simp) ?_
      refine AllReadyH.cons (o := ⟨_, _, _, _, _, _⟩) rfl (fun K hK => ?_) AllReadyH.nil
      clear hHeld
      go_simp
      go_at_call 36
      refine (Y2.out _ (by (repeat' (first | (with_reducible exact Only.refl _ _) | (with_reducible refine Only.drew ?_) | (with_reducible refine Only.alloc ?_ _) | (with_reducible assumption))))).mono ?_
      rintro e v3 ⟨rfl, hO3, hk3⟩
      have hb3 := hk3 _ _ _ hb2
      refine hK.out _ _ (by (refine KEEP1.out _ ?_; (repeat' (first | (with_reducible exact Only.refl _ _) | (with_reducible refine Only.drew ?_) | (with_reducible refine Only.alloc ?_ _) | (with_reducible assumption))))) (fun hHeld => ?_)
      clear hK K
      try simp only [Act.put, List.setIfInBounds_toArray, List.set_cons_zero, List.set_cons_succ]
      refine wpAnyH_ready (rs := [18]) (by kernel_rfl) (by simp) ?_
      refine AllReadyH.cons (o := ⟨_, _, _, _, _, _⟩) rfl (fun K hK => ?_) AllReadyH.nil
      clear hHeld
      go_simp
      go_at_call 37
      refine (Y3.out _ (by (repeat' (first | (with_reducible exact Only.refl _ _) | (with_reducible refine Only.drew ?_) | (with_reducible refine Only.alloc ?_ _) | (with_reducible assumption))))).mono ?_
      rintro e v4 ⟨rfl, hO4, hk4⟩
      have hb4 := hk4 _ _ _ hb3
      refine hK.out _ _ (by (refine KEEP1.out _ ?_; (repeat' (first | (with_reducible exact Only.refl _ _) | (with_reducible refine Only.drew ?_) | (with_reducible refine Only.alloc ?_ _) | (with_reducible assumption))))) (fun hHeld => ?_)
      clear hK K
      try simp only [Act.put, List.setIfInBounds_toArray, List.set_cons_zero, List.set_cons_succ]
      refine wpAnyH_ready (rs := [22]) (by kernel_rfl) (by simp) ?_
      refine AllReadyH.cons (o := ⟨_, _, _, _, _, _⟩) rfl (fun K hK => ?_) AllReadyH.nil
      clear hHeld
      go_simp
      go_at_call 36
      refine (Y4.out _ (by (repeat' (first | (with_reducible exact Only.refl _ _) | (with_reducible refine Only.drew ?_) | (with_reducible refine Only.alloc ?_ _) | (with_reducible assumption))))).mono ?_
      rintro e v5 ⟨rfl, hO5, hk5⟩
      have hb5 := hk5 _ _ _ hb4
      refine hK.out _ _ (by (refine KEEP1.out _ ?_; (repeat' (first | (with_reducible exact Only.refl _ _) | (with_reducible refine Only.drew ?_) | (with_reducible refine Only.alloc ?_ _) | (with_reducible assumption))))) (fun hHeld => ?_)
      clear hK K
      try simp only [Act.put, List.setIfInBounds_toArray, List.set_cons_zero, List.set_cons_succ]
      refine wpAnyH_take (i := 23) (oi := ⟨_, _, _, _, _, _⟩) (v := ?_) rfl (by kernel_rfl) (by kernel_rfl) (by kernel_rfl) (fun _ _ _ h => h) (Or.inl ⟨by rfl, ?_⟩) hHeld ?_
      rotate_left
      · (intro w hSw; (try dsimp only at hSw); go_simp) <;> with_reducible rfl
      try simp only [Act.put, List.setIfInBounds_toArray, List.set_cons_zero, List.set_cons_succ]
      obtain ⟨q0, q1, q2, q3, q4, q5, q6⟩ := blk7 hb5
      have qf := hb5.free
      have ql := hb5.lt
      have hle : w1.heap.size ≤ w1.heap.size := by first | exact Nat.le_refl _ | assumption
      refine wpAnyH_ready (rs := [25]) (by kernel_rfl) (by simp) ?_
      refine AllReadyH.cons (o := ⟨_, _, _, _, _, _⟩) rfl (fun K hK => ?_) AllReadyH.nil
      clear hHeld
      go_simp
      refine hK.out _ _ (KEEP1.out _ (only7 hO5 hle _ _ _ _ _ _ _)) (fun hHeld => ?_)
      clear hK K
      try simp only [Act.put, List.setIfInBounds_toArray, List.set_cons_zero, List.set_cons_succ]
      refine wpAnyH_done (by kernel_rfl) ?_ _
      go_wp2_with fail
      go_meet
      case rel => exact ⟨_, rfl, hle, Only.nil (only7 hO5 hle _ _ _ _ _ _ _), put7 hb5 _ _ _ _ _ _ _⟩
  case rest =>
  obtain ⟨gb, rfl, hne, hbx, hkx⟩ := hcut
  obtain ⟨z0, z1, z2, z3, z4, z5, z6⟩ := blk7 hkx
  have zf := hkx.free
  have hlx := hkx.lt
  have HKX := hid hkx
  have HBX := hid hbx
  have HKR := hid (HK1.out.later hbx)
  have hlr := HKR.out.lt
  clear hkx hbx X0 X1 X2 X3 X4 KEEP
  go_upto_region 6 with fail
  refine wp_genS ?_
  intro w6 hw6
  have HF6 : Hid (Blk w6 gb #[.int .i64 vs, .int .i64 0, .int .i64 va, .int .i64 vb, .int .i64 vc, .int .i64 vd, .int .i64 ve] 50 ∧ Blk w6 W.heap.size #[.int .i64 0, .int .i64 0, .int .i64 0, .int .i64 0, .int .i64 0, .int .i64 0, .int .i64 0] 50 ∧ Below W.heap.size W w6) := hid (by
    have ho : Only [gb] wc w6 := by rw [hw6]; exact (Only.refl _ _).setCell (by simp) _
    have hW1 := HK1.out.lt
    refine ⟨?_, HKR.out.only ho (by simp; omega), HB1.out.trans ((HBX.out.mono HB1.out.size).trans (ho.below ?_ ?_))⟩
    · rw [hw6, HBE.out]
      exact HKX.out.set 0 _
    · have := HB1.out.size; have := HBX.out.size; omega
    · intro b hb
      simp at hb
      omega)
  clear hw6 z0 z1 z2 z3 z4 z5 z6 zf hlx hlr HKX HKR HBX
  obtain ⟨z0, z1, z2, z3, z4, z5, z6⟩ := blk7 HF6.out.1
  obtain ⟨y0, y1, y2, y3, y4, y5, y6⟩ := blk7 HF6.out.2.1
  have yf := HF6.out.2.1.free
  have hl1 := HF6.out.1.lt
  have hl2 := HF6.out.2.1.lt
  go_wp2_with fail
  refine bodyPost_ret (by simp [results, Try.results13, go_sem, y0, y1, y2, y3, y4, y5, y6]; try rfl) rfl ?_
  refine ⟨rfl, HF6.out.2.2.trans (Only.below (S := [W.heap.size]) ?_ HF6.out.2.2.size (fun b hb => by simp at hb; omega))⟩
  iterate 7 (refine Only.setCell ?_ (by simp) _)
  exact Only.refl _ _
end C27
end Go.Proofs.Ytcohcanakicmpaa
namespace Go.Proofs.Ytcohcanakicmpaa
open Go.RowKit Go.Peri
open Sq (rest ixQ atQ total bk benc)
open Gen (flat_set set_mid get_mid map_take_snoc owns_at owns_num owns_le owns_below)
open C26 (QR BR BO Fresh clk)
open C25 (BufIs roomR own Moved)
namespace C27
set_option maxRecDepth 100000 in
set_option maxHeartbeats 8000000 in
theorem sent_any (gX gS gB : Nat) (h : Option Nat) (node : Int) (c : Lim) (x : Xs) (W : World) (hx : XIs W gX gS gB h node c x) (bd : Bd x) :
    Calls Try.prog 14 #[.pointer (some ⟨gX, 0, none⟩)] W fun e w' => ∃ a cap, e = .returned (.slice a x.way.length cap) ∧ Below W.heap.size W w' := by
  obtain ⟨a0, cap0, hb0, l, hl, hrow, hat⟩ := hx.s.bs
  have hln : l.length = x.way.length := by rw [← hl, List.length_map]
  have hl8 : l.length ≤ 8 := by rw [hln]; exact bd.way
  have x0 := hx.bx.cell 0
  have hgl := hx.bx.lt
  have hsl := hb0.lt
  have s14 := hb0.cell 14
  simp only [List.getElem?_toArray, List.getElem?_cons_zero, List.getElem?_cons_succ] at x0 s14
  have HSP : Hid (∀ k ∈ l, k.sp.length ≤ 1000000) := hid (fun k hk => by
    have := (bd.sp k.core (by rw [← hl]; exact List.mem_map_of_mem hk)).1
    have e : k.core.sp = k.sp := rfl
    rw [e] at this
    omega)
  have HC := hid (C26.qclone_any _ l W hrow (fun b hb => hb.1) (by omega))
  have HA : Hid (∀ k ∈ l, k.At (· < W.heap.size) W) := hid (fun k hk => (hat k hk).imp (fun b hb => hb.1))
  rw [← hln] at s14 HC ⊢
  clear hrow hat hl bd hx hb0 hln
  go_enter Try.func14, Try.ntmps14
  go_wp2_with fail
  refine HC.out.mono ?_
  rintro e w1 ⟨a1, cap1, rfl, hb1, hown⟩
  have HB1 := hid hb1
  have HO := hid hown.out
  obtain ⟨n, hn⟩ : ∃ n, n = l.length := ⟨_, rfl⟩
  have HN := hid hn
  rw [← hn] at hl8 ⊢
  clear hown hb1 HC x0 s14 hgl hsl hn
  go_wp2_with fail
  go_loopw [18] (fun i wr => ∃ k : Nat, k ≤ n ∧ i = .int .i64 k ∧ Hid (∃ cs : List Value, (∀ j, k * 5 ≤ j → cs[j]? = (l.flatMap Sq.enc)[j]?) ∧ Below W.heap.size W wr ∧ wr.ownsRow W.heap.size 93 5 (.slice a1 n cap1) n cs)) (fun i _ => n - (intOf i).toNat)
  case atStart => exact ⟨0, Nat.zero_le _, rfl, hid ⟨_, fun _ _ => rfl, HB1.out, by rw [HN.out]; exact HO.out⟩⟩
  case round =>
    obtain ⟨k, hk, rfl, hh⟩ := hrel
    by_cases hk2 : k < n
    · obtain ⟨cs, hcs, hb, hown⟩ := hh.out
      have hk3 : k < l.length := by rw [← HN.out]; exact hk2
      obtain ⟨g, cap2, e2, hg1, hg2⟩ := owns_at hown (by omega)
      cases e2
      obtain ⟨cc0, cc1, cc2, cc3, cc4⟩ := Sq.cells (y := l[k]) (w := wr) (b := g) (o := k * 5) (fun j u hj => by
        have hj2 : j < 5 := (List.getElem?_eq_some_iff.1 hj).1
        rw [hown.cellAt (k * 5 + j) (by omega), hcs _ (by omega), flat_get Sq.enc_length _ k hk3 j hj2]
        exact hj)
      have HXA : Hid (l[k].At (· < W.heap.size) wr) := hid ((HA.out l[k] (List.getElem_mem hk3)).below hb (fun _ h => h))
      have hxl := HSP.out l[k] (List.getElem_mem hk3)
      generalize l[k] = y at cc0 cc1 cc2 cc3 cc4 HXA hxl
      have HB := hid hb
      have HOW := hid hown
      have HCS := hid hcs
      clear hh hb hown hcs
      go_upto_region 7 with fail
      refine wp_genS ?_
      intro w2 hw2
      have hb2 : Below wr.heap.size wr w2 := by rw [hw2]; go_grown
      have hk4 : Blk w2 wr.heap.size #[.int .i64 y.node, .int .i64 y.seq, .slice y.pa y.sp.length y.pcap, .int .i64 y.tries, .int .i64 y.due] 93 := by rw [hw2]; exact Blk.new _ _ _
      have z2 : w2.cell? ⟨wr.heap.size, 2, none⟩ = some (.slice y.pa y.sp.length y.pcap) := hk4.cell 2
      have hl2 := hk4.lt
      have HB2 := hid (HB.out.trans (hb2.mono HB.out.size))
      have HO2 := hid (owns_below HOW.out hb2)
      have HPC := hid (C30.sclone_any (p := (· < W.heap.size)) (.slice y.pa y.sp.length y.pcap) y.sp w2 (HXA.out.below hb2 (fun b hb => Nat.lt_of_lt_of_le hb HB.out.size)) (fun b hb => Nat.lt_of_lt_of_le hb (Nat.le_trans HB.out.size hb2.size)) hxl)
      clear hw2 hb2 hk4 cc0 cc1 cc2 cc3 cc4
      go_wp2_with fail
      refine HPC.out.mono ?_
      rintro e w3 ⟨pa, pcap, rfl, hb3, -⟩
      have HB3 := hid (HB2.out.trans (hb3.mono HB2.out.size))
      have hown3 := owns_below HO2.out hb3
      have hlen := hown3.1
      have dd2 : ∃ u, w3.cell? ⟨g, k * 5 + 2, none⟩ = some u := by
        rw [hown3.cellAt (k * 5 + 2) (by omega)]
        exact ⟨_, List.getElem?_eq_getElem (by omega)⟩
      obtain ⟨u2, dd2⟩ := dd2
      have hfz : ∀ j, w3.frozen? ⟨g, j, none⟩ = false := fun j => hown3.frozenAt _
      have hg3 : g < w3.heap.size := (owns_bd hown3 g (by simp [blocks, Value.ownBlock])).2
      have HR : Hid (∃ cs : List Value, (∀ j, (k + 1) * 5 ≤ j → cs[j]? = (l.flatMap Sq.enc)[j]?) ∧ Below W.heap.size W (w3.setCell ⟨g, k * 5 + 2, none⟩ (.slice pa y.sp.length pcap)) ∧ (w3.setCell ⟨g, k * 5 + 2, none⟩ (.slice pa y.sp.length pcap)).ownsRow W.heap.size 93 5 (.slice (some ⟨g, 0, none⟩) n cap1) n cs) := hid (by
        refine ⟨_, ?_, HB3.out.trans (((Only.refl [g] w3).setCell (by simp) _).below HB3.out.size (fun b hb => by simp at hb; omega)), (hown3.stored (k * 5 + 2) _).1⟩
        intro j hj
        rw [List.getElem?_set_ne (by omega)]
        exact HCS.out j (by omega))
      clear hb3 hown3 HPC z2 hlen
      go_wp2_with fail
      go_roundw
      case rel => exact ⟨k + 1, by omega, by go_num, HR⟩
      case measure => simp [intOf]; omega
    · obtain rfl : k = n := by omega
      obtain ⟨cs, hcs, hb, hown⟩ := hh.out
      have HR := hid hb
      clear hcs hb hown hh
      go_wp2_with fail
      go_ret
      exact ⟨a1, cap1, by rw [← HN.out]; rfl, HR.out⟩
end C27
end Go.Proofs.Ytcohcanakicmpaa
namespace Go.Proofs.Ytcohcanakicmpaa
open Go.RowKit Go.Peri
open C25 (BufIs roomR own Moved)
namespace C27
set_option maxRecDepth 100000 in
theorem put_nil (W : World) : Calls Try.prog 8 #[.pointer none, .agg #[.int .u64 0, .int .u64 0, .int .u64 0, .int .u64 0, .string ⟨#[]⟩, .int .i64 0, .int .i64 0, .int .i64 0, .bool false, .int .i64 0, .int .i64 0]] W fun e w' => e = .returned (.int .i64 1) ∧ Below W.heap.size W w' := by
  go_enter Try.func8, Try.ntmps8
  go_wp2_with fail
  go_ret
  exact ⟨rfl, by go_grown⟩
set_option maxRecDepth 100000 in
theorem tick_nil (W : World) : Calls Try.prog 10 #[.pointer none, .int .i64 1] W fun e w' => e = .returned (.slice none 0 0) ∧ W = w' := by
  go_enter Try.func10, Try.ntmps10
  go_wp2_with fail
  go_ret
  exact ⟨rfl, rfl⟩
set_option maxRecDepth 100000 in
theorem ack_nil (W : World) : Calls Try.prog 12 #[.pointer none, .int .i64 0] W fun e w' => e = .returned (.int .i64 0) ∧ W = w' := by
  go_enter Try.func12, Try.ntmps12
  go_wp2_with fail
  go_ret
  exact ⟨rfl, rfl⟩
set_option maxRecDepth 100000 in
theorem sent_nil (W : World) : Calls Try.prog 14 #[.pointer none] W fun e w' => e = .returned (.slice none 0 0) ∧ W = w' := by
  go_enter Try.func14, Try.ntmps14
  go_wp2_with fail
  go_ret
  exact ⟨rfl, rfl⟩
set_option maxRecDepth 100000 in
theorem tally_nil (W : World) : Calls Try.prog 13 #[.pointer none] W fun e w' => e = .returned (.agg #[.int .i64 0, .int .i64 0, .int .i64 0, .int .i64 0, .int .i64 0, .int .i64 0, .int .i64 0]) ∧ Below W.heap.size W w' := by
  go_enter Try.func13, Try.ntmps13
  go_upto_region 2 with fail
  refine wp_genS ?_
  intro w1 hw1
  have hb1 : Below W.heap.size W w1 := by rw [hw1]; go_grown
  have hk1 : Blk w1 W.heap.size #[.int .i64 0, .int .i64 0, .int .i64 0, .int .i64 0, .int .i64 0, .int .i64 0, .int .i64 0] 50 := by rw [hw1]; exact Blk.new _ _ _
  obtain ⟨y0, y1, y2, y3, y4, y5, y6⟩ := blk7 hk1
  have yf := hk1.free
  have hl := hk1.lt
  have HB1 := hid hb1
  clear hw1 hb1 hk1
  go_wp2_with fail
  refine bodyPost_ret (by simp [results, Try.results13, go_sem, y0, y1, y2, y3, y4, y5, y6]; try rfl) rfl ?_
  refine ⟨rfl, HB1.out.trans (Only.below (S := [W.heap.size]) ?_ HB1.out.size (fun b hb => by simp at hb; omega))⟩
  iterate 7 (refine Only.setCell ?_ (by simp) _)
  exact Only.refl _ _
set_option maxRecDepth 100000 in
theorem nothing_any (W : World) : Calls Try.prog 21 #[] W fun e w' => e = .returned (.bool true) ∧ Below W.heap.size W w' := by
  have q50 : ∀ w, (binOp .eql 50 (.agg #[.int .i64 0, .int .i64 0, .int .i64 0, .int .i64 0, .int .i64 0, .int .i64 0, .int .i64 0]) (.agg #[.int .i64 0, .int .i64 0, .int .i64 0, .int .i64 0, .int .i64 0, .int .i64 0, .int .i64 0])).run Try.prog w = .ok (.bool true) w := fun _ => by kernel_rfl
  have P := hid (put_nil)
  have S := hid (tick_nil)
  have A := hid (ack_nil)
  have E := hid (sent_nil)
  have T := hid (tally_nil)
  go_enter Try.func21, Try.ntmps21
  go_wp2_with fail
  refine (P.out _).mono ?_
  rintro e w1 ⟨rfl, hb1⟩
  have HB1 := hid hb1
  clear hb1
  go_wp2_with fail
  refine (S.out _).mono ?_
  rintro e w2 ⟨rfl, rfl⟩
  go_wp2_with fail
  refine (A.out _).mono ?_
  rintro e w2 ⟨rfl, rfl⟩
  go_wp2_with fail
  refine (E.out _).mono ?_
  rintro e w2 ⟨rfl, rfl⟩
  go_wp2_with fail
  refine (T.out _).mono ?_
  rintro e w2 ⟨rfl, hb2⟩
  have HB2 := hid (HB1.out.trans (hb2.mono HB1.out.size))
  clear hb2
  go_wp2_with fail
  go_ret
  exact ⟨rfl, HB2.out⟩
set_option maxRecDepth 100000 in
theorem limits_any (W : World) : Calls Try.prog 17 #[] W fun e w' => e = .returned (.agg #[.int .i64 0, .int .i64 0, .int .i64 0, .int .i64 3, .int .i64 2, .int .i64 4, .int .i64 2, .int .i64 2, .int .i64 2, .int .i64 0, .int .i64 0, .slice none 0 0]) ∧ Below W.heap.size W w' := by
  go_enter Try.func17, Try.ntmps17
  go_upto_region 1 with fail
  refine wp_genS ?_
  intro w1 hw1
  have hb1 : Below W.heap.size W w1 := by rw [hw1]; go_grown
  have hk1 : Blk w1 W.heap.size #[.int .i64 0, .int .i64 0, .int .i64 0, .int .i64 0, .int .i64 0, .int .i64 0, .int .i64 0, .int .i64 0, .int .i64 0, .int .i64 0, .int .i64 0, .slice none 0 0] 24 := by rw [hw1]; exact Blk.new _ _ _
  have y0 := hk1.cell 0
  have y1 := hk1.cell 1
  have y2 := hk1.cell 2
  have y3 := hk1.cell 3
  have y4 := hk1.cell 4
  have y5 := hk1.cell 5
  have y6 := hk1.cell 6
  have y7 := hk1.cell 7
  have y8 := hk1.cell 8
  have y9 := hk1.cell 9
  have y10 := hk1.cell 10
  have y11 := hk1.cell 11
  simp only [List.getElem?_toArray, List.getElem?_cons_zero, List.getElem?_cons_succ] at y0 y1 y2 y3 y4 y5 y6 y7 y8 y9 y10 y11
  have yf := hk1.free
  have hl := hk1.lt
  have HB1 := hid hb1
  clear hw1 hb1 hk1
  go_wp2_with fail
  refine bodyPost_ret (by simp [results, Try.results17, go_sem, y0, y1, y2, y3, y4, y5, y6, y7, y8, y9, y10, y11]; try rfl) rfl ?_
  refine ⟨rfl, HB1.out.trans (Only.below (S := [W.heap.size]) ?_ HB1.out.size (fun b hb => by simp at hb; omega))⟩
  iterate 12 (refine Only.setCell ?_ (by simp) _)
  exact Only.refl _ _
set_option maxRecDepth 100000 in
theorem new_bad (W : World) : Calls Try.prog 7 #[.int .i64 8, .agg #[.int .i64 0, .int .i64 0, .int .i64 0, .int .i64 3, .int .i64 2, .int .i64 4, .int .i64 2, .int .i64 2, .int .i64 2, .int .i64 0, .int .i64 0, .slice none 0 0]] W fun e w' => e = .returned (.tuple #[.pointer none, .int .i64 12]) ∧ Below W.heap.size W w' := by
  go_enter Try.func7, Try.ntmps7
  go_wp2_with fail
  go_ret2
  exact ⟨rfl, by go_grown⟩
end C27
end Go.Proofs.Ytcohcanakicmpaa
namespace Go.Proofs.Ytcohcanakicmpaa
open Go.RowKit Go.Peri
open Sq (rest ixQ atQ total bk benc)
open C26 (QR BR BO Fresh clk)
open C25 (BufIs roomR own Moved)
open C10 (Okb bW)
open C09 (chS)
namespace C27
def cK : Lim := ⟨0, 0, 0, 3, 2, 4, 2, 2, 2, 0, 0, none, 0, 0⟩
theorem cK_ok : cK.Ok := ⟨by decide, by decide, by decide, by decide, by decide, by decide⟩
def sK : Sp := ⟨0, 1, 2, 0, ⟨#[97]⟩, 0, 0, 0, false, 0, 0⟩
def zK : Sp := ⟨0, 0, 0, 0, ⟨#[]⟩, 0, 0, 0, false, 0, 0⟩
def x1K : Xs := ⟨[sK], 0, [], 0, 0, 0, 0, []⟩
def x2K : Xs := ⟨[sK, sK], 0, [], 0, 0, 0, 0, []⟩
def x3K : Xs := ⟨[], 0, [⟨5, 0, none, 0, [sK, sK], 1, 3⟩], 1, 1, 0, 0, []⟩
def x4K : Xs := ⟨[], 0, [], 1, 1, 2, 0, []⟩
theorem sK_ch : chS sK = 0 := by kernel_rfl
theorem zK_ch : chS zK = 11 := by kernel_rfl
theorem sK_wf : sK.Wf := ⟨by unfold Sp.U64; decide, by unfold Sp.U64; decide, by unfold Sp.U64; decide, by unfold Sp.U64; decide, by decide, ⟨by decide, by decide⟩, ⟨by decide, by decide⟩, ⟨by decide, by decide⟩, ⟨by decide, by decide⟩, ⟨by decide, by decide⟩⟩
theorem zK_wf : zK.Wf := ⟨by unfold Sp.U64; decide, by unfold Sp.U64; decide, by unfold Sp.U64; decide, by unfold Sp.U64; decide, by decide, ⟨by decide, by decide⟩, ⟨by decide, by decide⟩, ⟨by decide, by decide⟩, ⟨by decide, by decide⟩, ⟨by decide, by decide⟩⟩
theorem put1 : putE cK x0 sK = 0 ∧ putX cK x0 sK = x1K := by
  unfold putE putX; rw [sK_ch]; exact ⟨rfl, rfl⟩
theorem put2 : putE cK x1K sK = 0 ∧ putX cK x1K sK = x2K := by
  unfold putE putX; rw [sK_ch]; exact ⟨rfl, rfl⟩
theorem put3 : putE cK x2K zK = 11 ∧ putX cK x2K zK = x2K := by
  unfold putE putX; rw [zK_ch]; exact ⟨rfl, rfl⟩
theorem stepK : stepX 5 cK x2K (clk 1) = (x3K, [(5, 0, [sK, sK])]) := by kernel_rfl
theorem ackK : ackN x3K 0 = 2 ∧ ackX x3K 0 = x4K := ⟨by kernel_rfl, by kernel_rfl⟩
theorem okK : Okb 5 0 [sK, sK] := ⟨by decide, by decide, by decide, fun x hx => by
  simp only [List.mem_cons, List.not_mem_nil, or_false, or_self] at hx
  subst hx
  exact ⟨sK_wf, sK_ch⟩⟩
theorem bd2 : Bd x2K := ⟨by decide, by simp [x2K], by decide, by decide, by decide, by decide⟩
theorem bd3 : Bd x3K := ⟨by decide, by simp [x3K], by decide, by decide, by decide, by decide⟩
theorem bd4 : Bd x4K := ⟨by decide, by simp [x4K], by decide, by decide, by decide, by decide⟩
theorem ne_moved {w : World} {gS gB b : Nat} {h h' : Option Nat} (hl : b < w.heap.size) (h0 : b ∉ gS :: own gB h) (hm : Moved w h h') : b ∉ gS :: own gB h' := by
  rcases hm with rfl | ⟨k, rfl, hk⟩
  · exact h0
  · simp only [own, List.mem_cons, Option.toList_some, List.not_mem_nil, or_false, not_or] at h0 ⊢
    exact ⟨h0.1, h0.2.1, by omega⟩
theorem XIs.gS_lt {w : World} {gX gS gB : Nat} {h : Option Nat} {node : Int} {c : Lim} {x : Xs} (hx : XIs w gX gS gB h node c x) : ∀ b ∈ gS :: own gB h, b < w.heap.size := fun b hb => by
  rcases List.mem_cons.1 hb with rfl | hb
  · exact hx.s.gSlt
  · exact hx.s.bb.lt b hb
/-- What a call on an exporter leaves, with a block that is none of its own. -/
def CallQ (W : World) (gX gS gB bz : Nat) (x' : Xs) (e0 : Ending) (e : Ending) (w' : World) : Prop :=
  e = e0 ∧ ∃ h', Below gB W w' ∧ Blk w' bz #[.int .u64 0, .int .u64 1, .int .u64 2, .int .u64 0, .string ⟨#[97]⟩, .int .i64 0, .int .i64 0, .int .i64 0, .bool false, .int .i64 0, .int .i64 0] 37 ∧ Hid (XIs w' gX gS gB h' 5 cK x' ∧ bz ∉ gS :: own gB h')
theorem putK (W : World) (gX gS gB bz : Nat) (h : Option Nat) (x x' : Xs) (s : Sp) (r : Int) (hx : XIs W gX gS gB h 5 cK x) (hs : s.Wf) (hr : putE cK x s = r ∧ putX cK x s = x') (hk : Blk W bz #[.int .u64 0, .int .u64 1, .int .u64 2, .int .u64 0, .string ⟨#[97]⟩, .int .i64 0, .int .i64 0, .int .i64 0, .bool false, .int .i64 0, .int .i64 0] 37) (hb : bz ∉ gS :: own gB h) :
    Calls Try.prog 8 #[.pointer (some ⟨gX, 0, none⟩), .agg #[.int .u64 s.hi, .int .u64 s.lo, .int .u64 s.id, .int .u64 s.up, .string s.name, .int .i64 s.status, .int .i64 s.seq, .int .i64 s.kids, .bool s.shadow, .int .i64 s.start, .int .i64 s.stop]] W (CallQ W gX gS gB bz x' (.returned (.int .i64 r))) := by
  refine (put_any gX gS gB h 5 cK x s W hx hs).mono ?_
  rintro e w' ⟨rfl, h', ho, hm, hq⟩
  refine ⟨by rw [hr.1], h', hx.s.below ho, hk.only ho hb, hid ⟨?_, ne_moved hk.lt hb hm⟩⟩
  rw [← hr.2]
  exact hq.out
theorem rows_blk {α : Type} {enc : α → List Value} {k : Nat} (hk : ∀ x, (enc x).length = k) {w : World} {g t n : Nat} {l : List α} (h : Blk w g (l.flatMap enc).toArray t) (hn : l.length = n) (hm : n ≤ maxLen) : RowsOf (· = g) enc k w (.slice (some ⟨g, 0, none⟩) n n) l := by
  subst hn
  refine ⟨_, _, rfl, Nat.le_refl _, hm, by simp, .inr ⟨g, 0, rfl, rfl, fun i hi j u hu => ?_⟩⟩
  have hj : j < k := by have := (List.getElem?_eq_some_iff.1 hu).1; rw [hk] at this; exact this
  rw [h.cell, Nat.zero_add, List.getElem?_toArray, flat_get hk l i hi j hj]
  exact hu
def LimV : Value := .agg #[.int .i64 0, .int .i64 0, .int .i64 0, .int .i64 3, .int .i64 2, .int .i64 4, .int .i64 2, .int .i64 2, .int .i64 2, .int .i64 0, .int .i64 0, .slice none 0 0]
set_option maxRecDepth 100000 in
set_option maxHeartbeats 16000000 in
theorem known_any (W : World) : Calls Try.prog 6 #[] W fun e w' => e = .returned (.bool true) ∧ Below W.heap.size W w' := by
  have q50 : ∀ w, (binOp .eql 50 (.agg #[.int .i64 2, .int .i64 0, .int .i64 0, .int .i64 0, .int .i64 2, .int .i64 0, .int .i64 0]) (.agg #[.int .i64 2, .int .i64 0, .int .i64 0, .int .i64 0, .int .i64 2, .int .i64 0, .int .i64 0])).run Try.prog w = .ok (.bool true) w := fun _ => by kernel_rfl
  have XL := hid limits_any
  have XB := hid new_bad
  have XC := hid check_zero
  have XO := hid nothing_any
  have XN : Hid (∀ w, Calls Try.prog 7 #[.int .i64 5, .agg #[.int .i64 0, .int .i64 0, .int .i64 0, .int .i64 3, .int .i64 2, .int .i64 4, .int .i64 2, .int .i64 2, .int .i64 2, .int .i64 0, .int .i64 0, .slice none 0 0]] w (NewQ w 5 cK)) := hid (fun w => new_any 5 cK cK_ok w (by decide) (by decide))
  go_enter Try.func6, Try.ntmps6
  go_wp2_with fail
  refine (XL.out _).mono ?_
  rintro e w1 ⟨rfl, hb1⟩
  have HB1 := hid hb1
  clear hb1
  go_wp2_with fail
  refine (XN.out _).mono ?_
  rintro e w2 ⟨gB, gS, gX, rfl, hge, hb2, hx2⟩
  have hgB : W.heap.size ≤ gB := by have := HB1.out.size; omega
  have HB2 := hid (HB1.out.trans (hb2.mono HB1.out.size))
  have HX2 := hx2
  clear hb2 hx2 XN HB1
  go_upto_region 5 with fail
  refine wp_genS ?_
  intro w3 hw3
  have hb3 : Below w2.heap.size w2 w3 := by rw [hw3]; go_grown
  have hk3 : Blk w3 w2.heap.size #[.int .u64 0, .int .u64 1, .int .u64 2, .int .u64 0, .string ⟨#[97]⟩, .int .i64 0, .int .i64 0, .int .i64 0, .bool false, .int .i64 0, .int .i64 0] 37 := by rw [hw3]; exact Blk.new _ _ _
  obtain ⟨bz, hbz⟩ : ∃ b, b = w2.heap.size := ⟨_, rfl⟩
  have HX3 : Hid (XIs w3 gX gS gB none 5 cK x0 ∧ bz ∉ gS :: own gB none) := hid ⟨HX2.out.later hb3, fun hm => by have := HX2.out.gS_lt _ hm; omega⟩
  rw [← hbz] at hk3 ⊢
  have HB3 := hid (HB2.out.trans (hb3.mono HB2.out.size))
  have hzz : W.heap.size ≤ bz := by rw [hbz]; exact HB2.out.size
  obtain ⟨i0, i1, i2, i3, i4, i5, i6, i7, i8, i9, i10, -⟩ := C25.blk11 hk3
  clear hw3 hb3 hbz HX2 HB2
  have KEEP : Hid (∀ w', Blk w' bz #[.int .u64 0, .int .u64 1, .int .u64 2, .int .u64 0, .string ⟨#[97]⟩, .int .i64 0, .int .i64 0, .int .i64 0, .bool false, .int .i64 0, .int .i64 0] 37 → w'.cell? ⟨bz, 0, none⟩ = some (.int .u64 0) ∧ w'.cell? ⟨bz, 1, none⟩ = some (.int .u64 1) ∧ w'.cell? ⟨bz, 2, none⟩ = some (.int .u64 2) ∧ w'.cell? ⟨bz, 3, none⟩ = some (.int .u64 0) ∧ w'.cell? ⟨bz, 4, none⟩ = some (.string ⟨#[97]⟩) ∧ w'.cell? ⟨bz, 5, none⟩ = some (.int .i64 0) ∧ w'.cell? ⟨bz, 6, none⟩ = some (.int .i64 0) ∧ w'.cell? ⟨bz, 7, none⟩ = some (.int .i64 0) ∧ w'.cell? ⟨bz, 8, none⟩ = some (.bool false) ∧ w'.cell? ⟨bz, 9, none⟩ = some (.int .i64 0) ∧ w'.cell? ⟨bz, 10, none⟩ = some (.int .i64 0)) := hid (fun w' hk => ⟨hk.cell 0, hk.cell 1, hk.cell 2, hk.cell 3, hk.cell 4, hk.cell 5, hk.cell 6, hk.cell 7, hk.cell 8, hk.cell 9, hk.cell 10⟩)
  have P1 : Hid (∀ w', Below w3.heap.size w3 w' → Calls Try.prog 8 #[.pointer (some ⟨gX, 0, none⟩), .agg #[.int .u64 0, .int .u64 1, .int .u64 2, .int .u64 0, .string ⟨#[97]⟩, .int .i64 0, .int .i64 0, .int .i64 0, .bool false, .int .i64 0, .int .i64 0]] w' (CallQ w' gX gS gB bz x1K (.returned (.int .i64 0)))) := hid (fun w' hb => putK w' gX gS gB bz none x0 x1K sK 0 (HX3.out.1.later hb) sK_wf put1 (hk3.later hb) HX3.out.2)
  have P2 : Hid (∀ w' h, XIs w' gX gS gB h 5 cK x1K ∧ bz ∉ gS :: own gB h → Blk w' bz #[.int .u64 0, .int .u64 1, .int .u64 2, .int .u64 0, .string ⟨#[97]⟩, .int .i64 0, .int .i64 0, .int .i64 0, .bool false, .int .i64 0, .int .i64 0] 37 → Calls Try.prog 8 #[.pointer (some ⟨gX, 0, none⟩), .agg #[.int .u64 0, .int .u64 1, .int .u64 2, .int .u64 0, .string ⟨#[97]⟩, .int .i64 0, .int .i64 0, .int .i64 0, .bool false, .int .i64 0, .int .i64 0]] w' (CallQ w' gX gS gB bz x2K (.returned (.int .i64 0)))) := hid (fun w' h hx hk => putK w' gX gS gB bz h x1K x2K sK 0 hx.1 sK_wf put2 hk hx.2)
  have P3 : Hid (∀ w' h, XIs w' gX gS gB h 5 cK x2K ∧ bz ∉ gS :: own gB h → Blk w' bz #[.int .u64 0, .int .u64 1, .int .u64 2, .int .u64 0, .string ⟨#[97]⟩, .int .i64 0, .int .i64 0, .int .i64 0, .bool false, .int .i64 0, .int .i64 0] 37 → Calls Try.prog 8 #[.pointer (some ⟨gX, 0, none⟩), .agg #[.int .u64 0, .int .u64 0, .int .u64 0, .int .u64 0, .string ⟨#[]⟩, .int .i64 0, .int .i64 0, .int .i64 0, .bool false, .int .i64 0, .int .i64 0]] w' (CallQ w' gX gS gB bz x2K (.returned (.int .i64 11)))) := hid (fun w' h hx hk => putK w' gX gS gB bz h x2K x2K zK 11 hx.1 zK_wf put3 hk hx.2)
  have HK3 := hid hk3
  go_wp2_with fail
  refine wp_region_held_drew (S := (fun w' => w'.cell? ⟨bz, 0, none⟩ = some (.int .u64 0) ∧ w'.cell? ⟨bz, 1, none⟩ = some (.int .u64 1) ∧ w'.cell? ⟨bz, 2, none⟩ = some (.int .u64 2) ∧ w'.cell? ⟨bz, 3, none⟩ = some (.int .u64 0) ∧ w'.cell? ⟨bz, 4, none⟩ = some (.string ⟨#[97]⟩) ∧ w'.cell? ⟨bz, 5, none⟩ = some (.int .i64 0) ∧ w'.cell? ⟨bz, 6, none⟩ = some (.int .i64 0) ∧ w'.cell? ⟨bz, 7, none⟩ = some (.int .i64 0) ∧ w'.cell? ⟨bz, 8, none⟩ = some (.bool false) ∧ w'.cell? ⟨bz, 9, none⟩ = some (.int .i64 0) ∧ w'.cell? ⟨bz, 10, none⟩ = some (.int .i64 0))) (by kernel_rfl) (by (refine KEEP.out _ ?_; first | assumption | exact HK3.out.drew | exact HK3.out)) (fun hHeld => ?_)
  refine wpAnyH_take (i := 0) (oi := ⟨_, _, _, _, _, _⟩) (v := ?_) rfl (by kernel_rfl) (by kernel_rfl) (by kernel_rfl) (fun _ _ _ h => h) (Or.inl ⟨by rfl, ?_⟩) hHeld ?_
  rotate_left
  · (intro w hSw; (try dsimp only at hSw); go_simp) <;> with_reducible rfl
  try simp only [Act.put, List.setIfInBounds_toArray, List.set_cons_zero, List.set_cons_succ]
  refine wpAnyH_take (i := 1) (oi := ⟨_, _, _, _, _, _⟩) (v := ?_) rfl (by kernel_rfl) (by kernel_rfl) (by kernel_rfl) (fun _ _ _ h => h) (Or.inl ⟨by rfl, ?_⟩) hHeld ?_
  rotate_left
  · (intro w hSw; (try dsimp only at hSw); go_simp) <;> with_reducible rfl
  try simp only [Act.put, List.setIfInBounds_toArray, List.set_cons_zero, List.set_cons_succ]
  refine wpAnyH_take (i := 3) (oi := ⟨_, _, _, _, _, _⟩) (v := ?_) rfl (by kernel_rfl) (by kernel_rfl) (by kernel_rfl) (fun _ _ _ h => h) (Or.inl ⟨by rfl, ?_⟩) hHeld ?_
  rotate_left
  · (intro w hSw; (try dsimp only at hSw); go_simp) <;> with_reducible rfl
  try simp only [Act.put, List.setIfInBounds_toArray, List.set_cons_zero, List.set_cons_succ]
  refine wpAnyH_take (i := 4) (oi := ⟨_, _, _, _, _, _⟩) (v := ?_) rfl (by kernel_rfl) (by kernel_rfl) (by kernel_rfl) (fun _ _ _ h => h) (Or.inl ⟨by rfl, ?_⟩) hHeld ?_
  rotate_left
  · (intro w hSw; (try dsimp only at hSw); go_simp) <;> with_reducible rfl
  try simp only [Act.put, List.setIfInBounds_toArray, List.set_cons_zero, List.set_cons_succ]
  refine wpAnyH_take (i := 6) (oi := ⟨_, _, _, _, _, _⟩) (v := ?_) rfl (by kernel_rfl) (by kernel_rfl) (by kernel_rfl) (fun _ _ _ h => h) (Or.inl ⟨by rfl, ?_⟩) hHeld ?_
  rotate_left
  · (intro w hSw; (try dsimp only at hSw); go_simp) <;> with_reducible rfl
  try simp only [Act.put, List.setIfInBounds_toArray, List.set_cons_zero, List.set_cons_succ]
  refine wpAnyH_take (i := 7) (oi := ⟨_, _, _, _, _, _⟩) (v := ?_) rfl (by kernel_rfl) (by kernel_rfl) (by kernel_rfl) (fun _ _ _ h => h) (Or.inl ⟨by rfl, ?_⟩) hHeld ?_
  rotate_left
  · (intro w hSw; (try dsimp only at hSw); go_simp) <;> with_reducible rfl
  try simp only [Act.put, List.setIfInBounds_toArray, List.set_cons_zero, List.set_cons_succ]
  refine wpAnyH_ready (rs := [2]) (by kernel_rfl) (by simp) ?_
  refine AllReadyH.cons (o := ⟨_, _, _, _, _, _⟩) rfl (fun K hK => ?_) AllReadyH.nil
  clear hHeld
  go_simp
  go_at_call 8
  refine (P1.out _ (by first | exact Below.refl _ _ | exact (Below.refl _ _).drew)).mono ?_
  rintro e w4 ⟨rfl, h4, hq4, hk4, HX4⟩
  refine hK.out _ _ (by (refine KEEP.out _ ?_; first | assumption | exact HK3.out.drew | exact HK3.out)) (fun hHeld => ?_)
  clear hK K
  try simp only [Act.put, List.setIfInBounds_toArray, List.set_cons_zero, List.set_cons_succ]
  refine wpAnyH_ready (rs := [5]) (by kernel_rfl) (by simp) ?_
  refine AllReadyH.cons (o := ⟨_, _, _, _, _, _⟩) rfl (fun K hK => ?_) AllReadyH.nil
  clear hHeld
  go_simp
  go_at_call 8
  refine (P2.out _ h4 HX4.out hk4).mono ?_
  rintro e w5 ⟨rfl, h5, hq5, hk5, HX5⟩
  refine hK.out _ _ (by (refine KEEP.out _ ?_; first | assumption | exact HK3.out.drew | exact HK3.out)) (fun hHeld => ?_)
  clear hK K
  try simp only [Act.put, List.setIfInBounds_toArray, List.set_cons_zero, List.set_cons_succ]
  refine wpAnyH_ready (rs := [8]) (by kernel_rfl) (by simp) ?_
  refine AllReadyH.cons (o := ⟨_, _, _, _, _, _⟩) rfl (fun K hK => ?_) AllReadyH.nil
  clear hHeld
  go_simp
  go_at_call 8
  refine (P3.out _ h5 HX5.out hk5).mono ?_
  rintro e w6 ⟨rfl, h6, hq6, hk6, HX6⟩
  refine hK.out _ _ (by (refine KEEP.out _ ?_; first | assumption | exact HK3.out.drew | exact HK3.out)) (fun hHeld => ?_)
  clear hK K
  try simp only [Act.put, List.setIfInBounds_toArray, List.set_cons_zero, List.set_cons_succ]
  refine wpAnyH_take (i := 9) (oi := ⟨_, _, _, _, _, _⟩) (v := ?_) rfl (by kernel_rfl) (by kernel_rfl) (by kernel_rfl) (fun _ _ _ h => h) (Or.inl ⟨by rfl, ?_⟩) hHeld ?_
  rotate_left
  · (intro w hSw; (try dsimp only at hSw); go_simp) <;> with_reducible rfl
  try simp only [Act.put, List.setIfInBounds_toArray, List.set_cons_zero, List.set_cons_succ]
  refine wpAnyH_take (i := 10) (oi := ⟨_, _, _, _, _, _⟩) (v := ?_) rfl (by kernel_rfl) (by kernel_rfl) (by kernel_rfl) (fun _ _ _ h => h) (Or.inl ⟨by rfl, ?_⟩) hHeld ?_
  rotate_left
  · (intro w hSw; (try dsimp only at hSw); go_simp) <;> with_reducible rfl
  try simp only [Act.put, List.setIfInBounds_toArray, List.set_cons_zero, List.set_cons_succ]
  refine wpAnyH_take (i := 11) (oi := ⟨_, _, _, _, _, _⟩) (v := ?_) rfl (by kernel_rfl) (by kernel_rfl) (by kernel_rfl) (fun _ _ _ h => h) (Or.inl ⟨by rfl, ?_⟩) hHeld ?_
  rotate_left
  · (intro w hSw; (try dsimp only at hSw); go_simp) <;> with_reducible rfl
  try simp only [Act.put, List.setIfInBounds_toArray, List.set_cons_zero, List.set_cons_succ]
  refine wpAnyH_done (by kernel_rfl) ?_ _
  have HB6 : Hid (Below W.heap.size W w6) := hid (((HB3.out.drew.trans (hq4.mono hgB)).trans (hq5.mono hgB)).trans (hq6.mono hgB))
  have HK6 := hid hk6
  clear hq4 hq5 hq6 hk3 hk4 hk5 hk6 P1 P2 P3 KEEP HX3 HB3 HK3 HX4 HX5 i0 i1 i2 i3 i4 i5 i6 i7 i8 i9 i10 hHeld
  have HLT := hid HX6.out.1.gS_lt
  have XT : Hid (Calls Try.prog 10 #[.pointer (some ⟨gX, 0, none⟩), .int .i64 1] w6 fun e w' => ∃ a cap, e = .returned (.slice a 1 cap) ∧ Below gB w6 w' ∧ Blk w' bz #[.int .u64 0, .int .u64 1, .int .u64 2, .int .u64 0, .string ⟨#[97]⟩, .int .i64 0, .int .i64 0, .int .i64 0, .bool false, .int .i64 0, .int .i64 0] 37 ∧ Hid (XIs w' gX gS gB h6 5 cK x3K ∧ RowsOf (Fresh w6.heap.size w') sEnc 1 w' (.slice a 1 cap) [bW 5 0 [sK, sK]])) := hid (by
    refine (tick_any gX gS gB h6 5 cK x2K 1 w6 HX6.out.1 bd2 ?_ ?_).mono ?_
    · rw [stepK]
      intro b hb
      simp only [List.mem_cons, List.not_mem_nil, or_false] at hb
      subst hb
      exact ⟨by decide, by decide, okK⟩
    · rw [stepK]; decide
    · rintro e w' ⟨v, rfl, ho, hq⟩
      rw [stepK] at hq
      have hr := hq.out.2
      obtain ⟨a, cap, rfl, _⟩ := hr
      exact ⟨a, cap, rfl, HX6.out.1.s.below ho, HK6.out.only ho HX6.out.2, hid ⟨hq.out.1, hq.out.2⟩⟩)
  go_wp2_with fail
  refine XT.out.mono ?_
  rintro e w7 ⟨a7, c7, rfl, hb7, hk7, hq7⟩
  have HB7 := hid (HB6.out.trans (hb7.mono hgB))
  have HX7 := hid hq7.out.1
  have HR7 := hid hq7.out.2
  obtain ⟨i0, i1, i2, i3, i4, i5, i6, i7, i8, i9, i10, -⟩ := C25.blk11 hk7
  have hl7 := hk7.lt
  have XW : Hid (∀ w', Blk w' w7.heap.size #[.int .u64 0, .int .u64 1, .int .u64 2, .int .u64 0, .string ⟨#[97]⟩, .int .i64 0, .int .i64 0, .int .i64 0, .bool false, .int .i64 0, .int .i64 0, .int .u64 0, .int .u64 1, .int .u64 2, .int .u64 0, .string ⟨#[97]⟩, .int .i64 0, .int .i64 0, .int .i64 0, .bool false, .int .i64 0, .int .i64 0] 37 → Calls Try.prog 18 #[.agg #[.int .i64 5, .int .i64 0, .slice (some ⟨w7.heap.size, 0, none⟩) 2 2]] w' fun e w'' => e = .returned (.tuple #[.string (bW 5 0 [sK, sK]), .int .i64 0]) ∧ Below w'.heap.size w' w'') := hid (fun w' hk => C10.rbwrite_any (p := (· = w7.heap.size)) 5 0 (some ⟨w7.heap.size, 0, none⟩) 2 [sK, sK] w' (rows_blk (enc := Sp.enc) (l := [sK, sK]) Sp.enc_length hk rfl (by unfold maxLen; decide)) (fun b hb => by rw [hb]; exact hk.lt) okK)
  clear hb7 hk7 hq7 XT HB6 HX6 HK6
  go_wp2_with fail
  refine (XW.out _ (Blk.new _ _ _)).mono ?_
  rintro e w8 ⟨rfl, hb8⟩
  have hb78 : Below w7.heap.size w7 w8 := Below.trans (Below.alloc (Below.refl _ _) (Nat.le_refl _) _) (hb8.mono (by simp))
  have HB8 := hid (HB7.out.trans (hb78.mono HB7.out.size))
  have HX8 := hid (HX7.out.later hb78)
  have HR8 : Hid (RowsOf (Fresh w6.heap.size w7) sEnc 1 w8 (.slice a7 1 c7) [bW 5 0 [sK, sK]]) := hid (HR7.out.below hb78 (fun b hb => hb.2))
  have HS8 := hid hb78.size
  have XA : Hid (Calls Try.prog 12 #[.pointer (some ⟨gX, 0, none⟩), .int .i64 0] w8 fun e w' => e = .returned (.int .i64 2) ∧ Below gB w8 w' ∧ Only (gS :: own gB h6) w8 w' ∧ Hid (XIs w' gX gS gB h6 5 cK x4K)) := hid (by
    refine (ack_any gX gS gB h6 5 cK x3K 0 w8 HX8.out bd3).mono ?_
    rintro e w' ⟨rfl, ho, hq⟩
    rw [ackK.1]
    rw [ackK.2] at hq
    exact ⟨rfl, HX8.out.s.below ho, ho, hq⟩)
  clear hb8 hb78 XW i0 i1 i2 i3 i4 i5 i6 i7 i8 i9 i10 hl7 HB7
  go_wp2_with fail
  refine XA.out.mono ?_
  rintro e w9 ⟨rfl, hb9, ho9, hx9⟩
  have HB9 := hid (HB8.out.trans (hb9.mono hgB))
  have HR9 : Hid (RowsOf (Fresh w6.heap.size w7) sEnc 1 w9 (.slice a7 1 c7) [bW 5 0 [sK, sK]]) := hid (HR8.out.only ho9 (fun b hb => ⟨Nat.lt_of_lt_of_le hb.2 HS8.out, fun hm => by have := HLT.out b hm; have := hb.1; omega⟩))
  have HX9 := hx9
  have HS9 : Hid (w7.heap.size ≤ w9.heap.size) := hid (Nat.le_trans HS8.out ho9.size)
  clear hb9 ho9 hx9 XA HR8 HR7 HX7 HX8 HB8 HS8
  go_wp2_with fail
  refine (XL.out _).mono ?_
  rintro e w10 ⟨rfl, hb10⟩
  have hs10 := hb10.size
  have HB10 := hid hb10
  clear hb10
  go_wp2_with fail
  refine (XB.out _).mono ?_
  rintro e w11 ⟨rfl, hb11⟩
  have HB11 : Hid (Below w9.heap.size w9 w11) := hid (HB10.out.trans (hb11.mono hs10))
  have XX : Hid (∀ w', Below w11.heap.size w11 w' → Blk w' w11.heap.size #[.string (bW 5 0 [sK, sK])] 9 → Calls Try.prog 19 #[.slice a7 1 c7, .slice (some ⟨w11.heap.size, 0, none⟩) 1 1] w' fun e w'' => e = .returned (.bool true) ∧ Below w'.heap.size w' w'') := hid (fun w' hb hk => by
    have hbb := HB11.out.trans (hb.mono HB11.out.size)
    refine C04.texts_any (p := Fresh w6.heap.size w7) (q := (· = w11.heap.size)) _ _ [bW 5 0 [sK, sK]] [bW 5 0 [sK, sK]] true w' (HR9.out.below hbb (fun b hb => Nat.lt_of_lt_of_le hb.2 HS9.out)) (fun b hb => Nat.lt_of_lt_of_le hb.2 (Nat.le_trans HS9.out hbb.size)) (rows_blk (enc := sEnc) (l := [bW 5 0 [sK, sK]]) (fun _ => rfl) hk rfl (by unfold maxLen; decide)) (fun b hb => by rw [hb]; exact hk.lt) (by decide) (by decide) (decide_eq_true rfl))
  have XTL : Hid (∀ w', Below w9.heap.size w9 w' → Calls Try.prog 13 #[.pointer (some ⟨gX, 0, none⟩)] w' fun e w'' => e = .returned (.agg #[.int .i64 2, .int .i64 0, .int .i64 0, .int .i64 0, .int .i64 2, .int .i64 0, .int .i64 0]) ∧ Below w'.heap.size w' w'') := hid (fun w' hb => (tally_any gX gS gB h6 5 cK x4K w' (HX9.out.later hb) bd4).mono (by
    rintro e w'' ⟨rfl, hb⟩
    exact ⟨by kernel_rfl, hb⟩))
  generalize bW 5 0 [sK, sK] = bb at XX ⊢
  clear hb11 hs10 HR9 HB10
  go_wp2_with fail
  refine (XX.out _ ((Below.refl _ _).alloc (Nat.le_refl _) _) (Blk.new _ _ _)).mono ?_
  rintro e w12 ⟨rfl, hb12⟩
  have hb112 : Below w11.heap.size w11 w12 := Below.trans (Below.alloc (Below.refl _ _) (Nat.le_refl _) _) (hb12.mono (by simp))
  have HB12 := hid (HB11.out.trans (hb112.mono HB11.out.size))
  clear hb12 hb112 XX
  go_wp2_with fail
  refine (XTL.out _ HB12.out).mono ?_
  rintro e w13 ⟨rfl, hb13⟩
  have HB13 := hid (HB12.out.trans (hb13.mono HB12.out.size))
  clear hb13 XTL
  go_wp2_with fail
  refine (XC.out _).mono ?_
  rintro e w14 ⟨rfl, hb14⟩
  have HB14 := hid (HB13.out.trans (hb14.mono HB13.out.size))
  clear hb14
  go_wp2_with fail
  refine (XO.out _).mono ?_
  rintro e w15 ⟨rfl, hb15⟩
  have HB15 := hid (HB14.out.trans (hb15.mono HB14.out.size))
  clear hb15
  go_wp2_with fail
  go_ret
  exact ⟨rfl, HB9.out.trans (HB15.out.mono HB9.out.size)⟩
end C27
end Go.Proofs.Ytcohcanakicmpaa
namespace Go.Proofs.Ytcohcanakicmpaa
open Go.RowKit Go.Peri
open Sq (rest ixQ atQ total bk benc)
open C26 (clk dueI restS againS givenS fate)
open C25 (roomR putR takeN)
open C10 (Okb bW)
open C09 (chS)
namespace C27
def bump (s : List Int) (q : Nat) : List Int := if q = s.length then s ++ [1] else s.set q (s.getD q 0 + 1)
def bumps (s : List Int) (l : List Nat) : List Int := l.foldl bump s
theorem bumps_snoc (s : List Int) (l : List Nat) (q : Nat) : bumps s (l ++ [q]) = bump (bumps s l) q := by simp [bumps]
theorem bump_in {s : List Int} {q : Nat} (h : q < s.length) : (bump s q).length = s.length ∧ ∀ j, (bump s q)[j]? = if j = q then (s[j]?).map (· + 1) else s[j]? := by
  unfold bump
  rw [if_neg (by omega)]
  refine ⟨by simp, fun j => ?_⟩
  by_cases e : j = q
  · subst e
    rw [if_pos rfl, List.getElem?_set_self h, List.getElem?_eq_getElem h]
    simp [List.getD, h]
  · rw [if_neg e, List.getElem?_set_ne (fun h => e h.symm)]
theorem bumps_in (l : List Nat) : ∀ s : List Int, l.Nodup → (∀ q ∈ l, q < s.length) → (bumps s l).length = s.length ∧ ∀ j, (bumps s l)[j]? = if j ∈ l then (s[j]?).map (· + 1) else s[j]? := by
  induction l with
  | nil => intro s _ _; exact ⟨rfl, fun j => by simp [bumps]⟩
  | cons q l ih =>
    intro s hn hl
    rw [List.nodup_cons] at hn
    obtain ⟨b1, b2⟩ := bump_in (hl q (by simp))
    obtain ⟨i1, i2⟩ := ih (bump s q) hn.2 (fun r hr => by rw [b1]; exact hl r (by simp [hr]))
    refine ⟨by show (bumps (bump s q) l).length = _; rw [i1, b1], fun j => ?_⟩
    show (bumps (bump s q) l)[j]? = _
    rw [i2 j, b2 j]
    by_cases e : j = q
    · subst e
      rw [if_neg hn.1, if_pos rfl, if_pos (by simp)]
    · rw [if_neg e]
      by_cases e2 : j ∈ l
      · rw [if_pos e2, if_pos (by simp [e2])]
      · rw [if_neg e2, if_neg (by simp [e, e2])]
/-- What holds of an exporter behind i moves. -/
structure Inv (c : Lim) (x : Xs) (i begun : Nat) (s : List Int) : Prop where
  ok : c.Ok
  wait : ∀ y ∈ x.wait, y.Wf ∧ chS y = 0
  room : (x.wait.length : Int) ≤ c.buf
  way : ∀ k ∈ x.way, k.node = 0 ∧ (∃ q : Nat, k.seq = q ∧ q < x.next ∧ s[q]? = some k.tries) ∧ 1 ≤ k.sp.length ∧ (k.sp.length : Int) ≤ c.batch ∧ (∀ y ∈ k.sp, y.Wf ∧ chS y = 0) ∧ 1 ≤ k.tries ∧ k.tries ≤ c.tries
  asc : x.way.Pairwise (fun a b => a.seq < b.seq)
  few : (x.way.length : Int) ≤ c.flight
  sum : ((x.wait.length + total x.way + x.acked + x.given : Nat) : Int) + x.lost = begun
  bi : begun ≤ i
  lost : 0 ≤ x.lost
  next : x.next ≤ i
  sent : s.length = x.next
  last : 0 ≤ x.last ∧ x.last ≤ 1099511627776
theorem Inv.bd {c : Lim} {x : Xs} {i begun : Nat} {s : List Int} (h : Inv c x i begun s) (hi : i ≤ 1000) : Bd x := by
  have h1 := h.sum
  have h2 := h.bi
  have h3 := h.lost
  have h4 := h.ok.flight
  have h5 := h.few
  have h6 := h.next
  have h7 := h.ok.batch
  have h8 := h.ok.tries
  refine ⟨by omega, fun k hk => ?_, by omega, by omega, by omega, h.last⟩
  obtain ⟨_, _, _, a, _, b, d⟩ := h.way k hk
  exact ⟨by omega, by omega, by omega⟩
theorem inv0 {c : Lim} (ok : c.Ok) : Inv c x0 0 0 [] :=
  ⟨ok, by simp [x0], by have := ok.buf; simp [x0]; omega, by simp [x0], by simp [x0], by have := ok.flight; simp [x0]; omega, by simp [x0, total], by simp, by simp [x0], by simp [x0], by simp [x0], by simp [x0]⟩
theorem room_is {c : Lim} (ok : c.Ok) : ((roomR c.buf : Nat) : Int) = c.buf := by
  have := ok.buf
  unfold roomR
  omega
theorem ch_is (y : Sp) : chS y = 0 ∨ chS y = 7 ∨ chS y = 11 ∨ chS y = 12 := by
  unfold chS
  split
  · simp
  · split
    · simp
    · split <;> simp
theorem inv_put {c : Lim} {x : Xs} {i begun : Nat} {s : List Int} (h : Inv c x i begun s) (hi : i ≤ 1000) (y : Sp) (hy : y.Wf) : Inv c (putX c x y) (i + 1) (if putE c x y = 0 ∨ putE c x y = 8 then begun + 1 else begun) s := by
  have hr := room_is h.ok
  have hroom := h.room
  have hsum := h.sum
  have hbi := h.bi
  have hn := h.next
  have hlo := h.lost
  by_cases h0 : chS y = 0
  · have e1 : putE c x y = if x.wait.length < roomR c.buf then 0 else 8 := by unfold putE; rw [if_pos h0]
    have e2 : putX c x y = { x with wait := (putR (roomR c.buf) (x.wait, x.lost) y).1, lost := (putR (roomR c.buf) (x.wait, x.lost) y).2 } := by unfold putX; rw [if_pos h0]
    rw [e1, e2]
    unfold putR
    by_cases hf : x.wait.length < roomR c.buf
    · simp only [if_pos hf]
      rw [if_pos (.inl trivial)]
      refine ⟨h.ok, fun z hz => ?_, by simp; omega, h.way, h.asc, h.few, by simp; omega, by omega, hlo, by show x.next ≤ _; omega, h.sent, h.last⟩
      rcases List.mem_append.1 hz with hz | hz
      · exact h.wait z hz
      · obtain rfl := List.mem_singleton.1 hz
        exact ⟨hy, h0⟩
    · simp only [if_neg hf]
      rw [if_pos (.inr trivial)]
      exact ⟨h.ok, h.wait, hroom, h.way, h.asc, h.few, by simp; omega, by omega, by simp; omega, by show x.next ≤ _; omega, h.sent, h.last⟩
  · have e1 : putE c x y = chS y := by unfold putE; rw [if_neg h0]
    have e2 : putX c x y = x := by unfold putX; rw [if_neg h0]
    rw [e1, e2, if_neg (by rcases ch_is y with e | e | e | e <;> omega)]
    exact ⟨h.ok, h.wait, hroom, h.way, h.asc, h.few, hsum, by omega, hlo, by omega, h.sent, h.last⟩
theorem rest_sub (l : List Sq) (q : Int) : ∀ k ∈ rest l q, k ∈ l := fun _ hk => (List.mem_filter.1 hk).1
theorem inv_ack {c : Lim} {x : Xs} {i begun : Nat} {s : List Int} (h : Inv c x i begun s) (q : Int) : Inv c (ackX x q) (i + 1) begun s := by
  have h1 := total_rest x.way q
  have h2 := h.sum
  have h3 : (rest x.way q).length ≤ x.way.length := List.length_filter_le _ _
  have h4 := h.few
  have h5 := h.bi
  have h6 := h.next
  refine ⟨h.ok, h.wait, h.room, fun k hk => h.way k (rest_sub _ _ k hk), h.asc.sublist List.filter_sublist, ?_, ?_, by omega, h.lost, ?_, h.sent, h.last⟩
  · show ((rest x.way q).length : Int) ≤ _
    omega
  · show ((x.wait.length + total (rest x.way q) + (x.acked + ackN x q) + x.given : Nat) : Int) + x.lost = begun
    unfold ackN
    omega
  · show x.next ≤ _
    omega
theorem rest_tail (now r t : Int) (y : Sq) (l : List Sq) : restS now r t (y :: l) = (if fate now t y = 0 then [y] else if fate now t y = 1 then [] else [{ y with tries := y.tries + 1, due := dueI now r }]) ++ restS now r t l := by
  unfold restS
  rw [List.flatMap_cons]
theorem fate_cases (now t : Int) (y : Sq) : (fate now t y = 0) ∨ (fate now t y = 1) ∨ (fate now t y = 2 ∧ y.tries < t) := by
  unfold fate
  split
  · exact .inl rfl
  · split
    · exact .inr (.inl rfl)
    · exact .inr (.inr ⟨rfl, by omega⟩)
theorem rest_total (now r t : Int) (l : List Sq) : total (restS now r t l) + total (givenS now t l) = total l := by
  induction l with
  | nil => rfl
  | cons y l ih =>
    rw [rest_tail, total_cat, total_cons]
    have hg : givenS now t (y :: l) = (if fate now t y = 1 then [y] else []) ++ givenS now t l := by
      unfold givenS
      rw [List.filter_cons]
      by_cases e : fate now t y = 1
      · simp [e]
      · simp [e]
    rw [hg, total_cat]
    rcases fate_cases now t y with e | e | ⟨e, _⟩
    · rw [e]; simp [total] at ih ⊢; omega
    · rw [e]; simp [total] at ih ⊢; omega
    · rw [e]; simp [total] at ih ⊢; omega
/-- What rests comes from what was there. -/
theorem rest_from {now r t : Int} {l : List Sq} {k : Sq} (hk : k ∈ restS now r t l) : ∃ k0 ∈ l, k.sp = k0.sp ∧ k.seq = k0.seq ∧ k.node = k0.node ∧ ((fate now t k0 = 0 ∧ k.tries = k0.tries) ∨ (fate now t k0 = 2 ∧ k.tries = k0.tries + 1 ∧ k0.tries < t)) := by
  unfold restS at hk
  rw [List.mem_flatMap] at hk
  obtain ⟨y, hy, hk⟩ := hk
  refine ⟨y, hy, ?_⟩
  rcases fate_cases now t y with e | e | ⟨e, e2⟩
  · rw [e] at hk; simp at hk; subst hk; exact ⟨rfl, rfl, rfl, .inl ⟨e, rfl⟩⟩
  · rw [e] at hk; simp at hk
  · rw [e] at hk; simp at hk; subst hk; exact ⟨rfl, rfl, rfl, .inr ⟨e, rfl, e2⟩⟩
theorem rest_asc (now r t : Int) (l : List Sq) (h : l.Pairwise (fun a b => a.seq < b.seq)) : (restS now r t l).Pairwise (fun a b => a.seq < b.seq) := by
  induction l with
  | nil => simp [restS]
  | cons y l ih =>
    rw [List.pairwise_cons] at h
    rw [rest_tail, List.pairwise_append]
    refine ⟨?_, ih h.2, ?_⟩
    · split
      · simp
      · split <;> simp
    · intro a ha b hb
      obtain ⟨b0, hb0, _, e, _⟩ := rest_from hb
      have h1 := h.1 b0 hb0
      have h2 : a.seq = y.seq := by
        split at ha
        · simp at ha; rw [ha]
        · split at ha
          · simp at ha
          · simp at ha; rw [ha]
      omega
/-- The numbers of what is sent again. -/
def seqA (now t : Int) (l : List Sq) : List Nat := (againS now t l).map (fun k => k.seq.toNat)
theorem again_mem {now t : Int} {l : List Sq} {k : Sq} (hk : k ∈ againS now t l) : k ∈ l ∧ fate now t k = 2 := by
  obtain ⟨h1, h2⟩ := List.mem_filter.1 hk
  exact ⟨h1, by simpa using h2⟩
theorem again_tries {now t : Int} {k : Sq} (h : fate now t k = 2) : k.tries < t := by
  rcases fate_cases now t k with e | e | ⟨_, e⟩
  · omega
  · omega
  · exact e
theorem seqA_nodup {c : Lim} {x : Xs} {i begun : Nat} {s : List Int} (h : Inv c x i begun s) (now t : Int) : (seqA now t x.way).Nodup := by
  have h1 : (againS now t x.way).Pairwise (fun a b => a.seq < b.seq) := h.asc.sublist List.filter_sublist
  unfold seqA List.Nodup
  rw [List.pairwise_map]
  refine List.Pairwise.imp_of_mem (R := fun a b : Sq => a.seq < b.seq) ?_ h1
  intro a b ha hb hab
  obtain ⟨_, ⟨qa, ea, _⟩, _⟩ := h.way a (again_mem ha).1
  obtain ⟨_, ⟨qb, eb, _⟩, _⟩ := h.way b (again_mem hb).1
  omega
theorem seqA_lt {c : Lim} {x : Xs} {i begun : Nat} {s : List Int} (h : Inv c x i begun s) (now t : Int) : ∀ q ∈ seqA now t x.way, q < s.length := by
  intro q hq
  obtain ⟨k, hk, rfl⟩ := List.mem_map.1 hq
  obtain ⟨_, ⟨qa, ea, hl, _⟩, _⟩ := h.way k (again_mem hk).1
  rw [h.sent]
  omega
/-- Numbers of what a tick sends. -/
def seqs (c : Lim) (x : Xs) (now : Int) : List Nat := seqA now c.tries x.way ++ (if readyB c (restX c x now) now = true then [x.next] else [])
end C27
end Go.Proofs.Ytcohcanakicmpaa
