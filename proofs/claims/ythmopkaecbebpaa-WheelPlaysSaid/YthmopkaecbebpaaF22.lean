/- Walks of layer 22 (wheel): anything set; a step; no condition. -/
import Derived.Test.YthmopkaecbebpaaE22
import Derived.Deep.Cut
namespace Go.Peri
open Go.RowKit
theorem Only.of_below' {S : List Nat} {B : Nat} {a b : World} (h : Below B a b) (hB : a.heap.size ≤ B) : Only S a b := ⟨h.os, h.tape, h.output, h.size, fun k hk _ => h.block k (by omega)⟩
theorem owns_form {w : World} {base : Nat} {e : TypeId} {size : Nat} {v : Value} {n : Nat} {xs : List Value} (h : w.ownsRow base e size v n xs) : ∃ a cap, v = .slice a n cap := by
  rcases h.2 with ⟨h5, h0⟩ | ⟨gg, cap, cur, h5, _⟩
  · rw [h5, h0]; exact ⟨none, 0, rfl⟩
  · rw [h5]; exact ⟨_, cap, rfl⟩
/-- Two rows that grow, each in a block of its own. -/
structure Two {α β : Type} (ea : α → List Value) (ka ta : Nat) (eb : β → List Value) (kb tb : Nat) (B : Nat) (w0 wr : World) (va vb : Value) (la : List α) (lb : List β) : Prop where
  bel : Below B w0 wr
  d : wr.ownsRow B ta ka va la.length (la.flatMap ea)
  r : wr.ownsRow B tb kb vb lb.length (lb.flatMap eb)
  x : Disj (blocks va) (blocks vb)
section
variable {α β : Type} {ea : α → List Value} {ka ta : Nat} {eb : β → List Value} {kb tb : Nat} {B : Nat} {w0 wr : World} {va vb : Value} {la : List α} {lb : List β}
theorem Two.start (w : World) {B : Nat} : Two ea ka ta eb kb tb B w w (.slice none 0 0) (.slice none 0 0) [] [] :=
  ⟨Below.refl _ _, World.ownsRow_nil _ _ _ _, World.ownsRow_nil _ _ _ _, fun k hk => by simp [blocks, Value.ownBlock] at hk⟩
theorem Two.alloc (h : Two ea ka ta eb kb tb B w0 wr va vb la lb) (hB : B ≤ wr.heap.size) (o : Obj) : Two ea ka ta eb kb tb B w0 (wr.alloc o) va vb la lb :=
  ⟨h.bel.alloc hB o, h.d.alloc _, h.r.alloc _, h.x⟩
theorem Two.pushA {w1 : World} {v' : Value} {x : α} (h : Two ea ka ta eb kb tb B w0 wr va vb la lb) (hB : B ≤ wr.heap.size) (hown : w1.ownsRow B ta ka v' (la.length + 1) (la.flatMap ea ++ ea x)) (ho : Only (blocks va) wr w1) (hm : Moves wr.heap.size (blocks va) (blocks v')) :
    Two ea ka ta eb kb tb B w0 w1 v' vb (la ++ [x]) lb :=
  ⟨h.bel.trans (ho.below hB (fun k hk => (owns_bd h.d k hk).1)), by simpa using hown, owns_keep h.r ho h.x.symm, h.x.move (owns_lt h.r) hm⟩
theorem Two.pushB {w1 : World} {v' : Value} {x : β} (h : Two ea ka ta eb kb tb B w0 wr va vb la lb) (hB : B ≤ wr.heap.size) (hown : w1.ownsRow B tb kb v' (lb.length + 1) (lb.flatMap eb ++ eb x)) (ho : Only (blocks vb) wr w1) (hm : Moves wr.heap.size (blocks vb) (blocks v')) :
    Two ea ka ta eb kb tb B w0 w1 va v' la (lb ++ [x]) :=
  ⟨h.bel.trans (ho.below hB (fun k hk => (owns_bd h.r k hk).1)), owns_keep h.d ho h.x, by simpa using hown, (h.x.symm.move (owns_lt h.d) hm).symm⟩
end
end Go.Peri
namespace Go.Proofs.Ythmopkaecbebpaa
open Go.RowKit Go.Peri
namespace C22
set_option maxRecDepth 100000 in
theorem set_low (g : Nat) (id t : Int) (w : World) (h : t < 1) : Calls Try.prog 23 #[.pointer (some ⟨g, 0, none⟩), .int .i64 id, .int .i64 t] w fun e w' => e = .returned (.int .i64 12) ∧ w = w' := by
  go_enter Try.func23, Try.ntmps23
  go_wp2
  go_ret
  exact ⟨rfl, rfl⟩
set_option maxRecDepth 100000 in
theorem set_high (g : Nat) (id t : Int) (w : World) (h : 50 < t) : Calls Try.prog 23 #[.pointer (some ⟨g, 0, none⟩), .int .i64 id, .int .i64 t] w fun e w' => e = .returned (.int .i64 12) ∧ w = w' := by
  have h2 : ¬ t < 1 := by omega
  go_enter Try.func23, Try.ntmps23
  go_wp2
  go_ret
  exact ⟨rfl, rfl⟩
set_option maxRecDepth 100000 in
theorem set_full (g n : Nat) (F : List Nat) (l : List Du) (id t : Int) (w : World) (h : WhIs w g F n l) (h1 : 1 ≤ t) (h2 : t ≤ 50) (h3 : 32 ≤ l.length) :
    Calls Try.prog 23 #[.pointer (some ⟨g, 0, none⟩), .int .i64 id, .int .i64 t] w fun e w' => e = .returned (.int .i64 8) ∧ w = w' := by
  obtain ⟨vs, _, h⟩ := h
  have c1 : w.cell? ⟨g, 1, none⟩ = some (.int .i64 l.length) := h.blk.cell 1
  have h4 : (32 : Int) ≤ (l.length : Int) := by omega
  clear h
  go_enter Try.func23, Try.ntmps23
  go_wp2
  go_ret
  exact ⟨rfl, rfl⟩
theorem set_any (g n : Nat) (F : List Nat) (l : List Du) (id t : Int) (w : World) (h : WhIs w g F n l) (hn : n ≤ 1000000) :
    Calls Try.prog 23 #[.pointer (some ⟨g, 0, none⟩), .int .i64 id, .int .i64 t] w fun e w' => e = .returned (.int .i64 (Wh.setE l t)) ∧ Only F w w' ∧ ∃ F', Hid (Moves w.heap.size F F') ∧ Hid (WhIs w' g F' n (Wh.setL n l id t)) := by
  by_cases h1 : t < 1 ∨ 50 < t
  · have he : Wh.setE l t = 12 := by unfold Wh.setE; rw [if_pos h1]
    have hl : Wh.setL n l id t = l := by unfold Wh.setL; rw [if_neg (by rw [he]; decide)]
    rw [he, hl]
    have := h1.elim (fun h1 => set_low g id t w h1) (fun h1 => set_high g id t w h1)
    refine this.mono ?_
    rintro e w' ⟨rfl, rfl⟩
    exact ⟨rfl, Only.refl _ _, F, Moves.refl _ _, h⟩
  · by_cases h2 : 32 ≤ l.length
    · have he : Wh.setE l t = 8 := by unfold Wh.setE; rw [if_neg h1, if_pos h2]
      have hl : Wh.setL n l id t = l := by unfold Wh.setL; rw [if_neg (by rw [he]; decide)]
      rw [he, hl]
      refine (set_full g n F l id t w h (by omega) (by omega) h2).mono ?_
      rintro e w' ⟨rfl, rfl⟩
      exact ⟨rfl, Only.refl _ _, F, Moves.refl _ _, h⟩
    · have he : Wh.setE l t = 0 := by unfold Wh.setE; rw [if_neg h1, if_neg h2]
      obtain ⟨k, rfl⟩ := Int.eq_ofNat_of_zero_le (show 0 ≤ t by omega)
      rw [he]
      exact set_more g n F l id k w h hn (by omega) (by omega) (by omega)
end C22
end Go.Proofs.Ythmopkaecbebpaa
