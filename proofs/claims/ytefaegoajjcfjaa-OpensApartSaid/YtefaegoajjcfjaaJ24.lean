/- Walks of layer 24 (opens): what must come of fixed calls; no condition. -/
import Derived.Test.YtefaegoajjcfjaaH24
namespace Go.Proofs.Ytefaegoajjcfjaa
open Go.RowKit Go.Peri
namespace C24

theorem start_val {p : Nat → Prop} (v : Value) (l : List Opn) (no : Int) (s : Sp) (W : World) (h : RowsOf p Opn.enc 12 W v l) (hp : ∀ b, p b → b < W.heap.size) (hl : l.length ≤ 100000) (l' : List Opn) (q : Int) (hr : startR l no s = (l', q)) :
    Calls Try.prog 58 #[v, .int .i64 no, .agg #[.int .u64 s.hi, .int .u64 s.lo, .int .u64 s.id, .int .u64 s.up, .string s.name, .int .i64 s.status, .int .i64 s.seq, .int .i64 s.kids, .bool s.shadow, .int .i64 s.start, .int .i64 s.stop]] W fun e w' =>
      ∃ a cap, e = .returned (.tuple #[.slice a l'.length cap, .int .i64 q]) ∧ Below W.heap.size W w' ∧ Hid (RowsOf (fun b => W.heap.size ≤ b ∧ b < w'.heap.size) Opn.enc 12 w' (.slice a l'.length cap) l') := by
  refine (start_any v l no s W h hp (by omega) _ hr).mono ?_
  rintro e w' ⟨_, rfl, u, rfl, hb, hrw⟩
  have h2 := hrw
  obtain ⟨a, cap, rfl, _⟩ := h2
  exact ⟨a, cap, rfl, hb, hrw⟩
theorem find_val {p : Nat → Prop} (v : Value) (l : List Opn) (no : Int) (W : World) (h : RowsOf p Opn.enc 12 W v l) (hp : ∀ b, p b → b < W.heap.size) (hl : l.length ≤ 100000) (s : Sp) (q : Bool) (hr : findR l no = (s, q)) :
    Calls Try.prog 62 #[v, .int .i64 no] W fun e w' => e = .returned (.tuple #[.agg #[.int .u64 s.hi, .int .u64 s.lo, .int .u64 s.id, .int .u64 s.up, .string s.name, .int .i64 s.status, .int .i64 s.seq, .int .i64 s.kids, .bool s.shadow, .int .i64 s.start, .int .i64 s.stop], .bool q]) ∧ Below W.heap.size W w' := by
  have := find_any v l no W h hp (by omega)
  rw [hr] at this
  exact this
theorem finish_val {p : Nat → Prop} (v : Value) (l : List Opn) (no st ki now : Int) (W : World) (h : RowsOf p Opn.enc 12 W v l) (hp : ∀ b, p b → b < W.heap.size) (hl : l.length ≤ 100000) (l' : List Opn) (s : Sp) (q : Int) (hr : finR l no st ki now = (l', s, q)) :
    Calls Try.prog 60 #[v, .int .i64 no, .int .i64 st, .int .i64 ki, .int .i64 now] W fun e w' =>
      ∃ a cap, e = .returned (.tuple #[.slice a l'.length cap, .agg #[.int .u64 s.hi, .int .u64 s.lo, .int .u64 s.id, .int .u64 s.up, .string s.name, .int .i64 s.status, .int .i64 s.seq, .int .i64 s.kids, .bool s.shadow, .int .i64 s.start, .int .i64 s.stop], .int .i64 q]) ∧ Below W.heap.size W w' ∧ Hid (RowsOf (fun b => W.heap.size ≤ b ∧ b < w'.heap.size) Opn.enc 12 w' (.slice a l'.length cap) l') := by
  refine (finish_any v l no st ki now W h hp hl _ hr).mono ?_
  rintro e w' ⟨_, rfl, u, rfl, hb, hrw⟩
  have h2 := hrw
  obtain ⟨a, cap, rfl, _⟩ := h2
  exact ⟨a, cap, rfl, hb, hrw⟩

def s5 : Sp := ⟨0, 0, 5, 0, ⟨#[]⟩, 0, 0, 0, false, 3, 0⟩
def s6 : Sp := ⟨0, 0, 5, 0, ⟨#[]⟩, 200, 0, 2, false, 3, 9⟩

set_option maxRecDepth 100000 in
set_option maxHeartbeats 4000000 in
theorem known_any (W : World) : Calls Try.prog 57 #[] W fun e w' => e = .returned (.bool true) ∧ Below W.heap.size W w' := by
  have q5 : ∀ w, (Op.equalIn 10000 79 (.agg #[.int .u64 0, .int .u64 0, .int .u64 5, .int .u64 0, .string ⟨#[]⟩, .int .i64 0, .int .i64 0, .int .i64 0, .bool false, .int .i64 3, .int .i64 0]) (.agg #[.int .u64 0, .int .u64 0, .int .u64 5, .int .u64 0, .string ⟨#[]⟩, .int .i64 0, .int .i64 0, .int .i64 0, .bool false, .int .i64 3, .int .i64 0])).run Try.prog w = .ok true w := fun w => by
    have := eqSp s5 s5 w; rw [decide_eq_true rfl] at this; exact this
  have q6 : ∀ w, (Op.equalIn 10000 79 (.agg #[.int .u64 0, .int .u64 0, .int .u64 5, .int .u64 0, .string ⟨#[]⟩, .int .i64 200, .int .i64 0, .int .i64 2, .bool false, .int .i64 3, .int .i64 9]) (.agg #[.int .u64 0, .int .u64 0, .int .u64 5, .int .u64 0, .string ⟨#[]⟩, .int .i64 200, .int .i64 0, .int .i64 2, .bool false, .int .i64 3, .int .i64 9])).run Try.prog w = .ok true w := fun w => by
    have := eqSp s6 s6 w; rw [decide_eq_true rfl] at this; exact this
  have F1 : Hid (startR [] 7 s5 = ([⟨7, s5⟩], 0)) := by show _ = _; rfl
  have F2 : Hid (startR [⟨7, s5⟩] 7 s5 = ([], 10)) := by show _ = _; rfl
  have F3 : Hid (findR [⟨7, s5⟩] 7 = (s5, true)) := by show _ = _; rfl
  have F4 : Hid (finR [⟨7, s5⟩] 7 200 2 9 = ([], s6, 0)) := by show _ = _; rfl
  have F5 : Hid (finR [⟨7, s5⟩] 8 200 2 9 = ([], sp0, 9)) := by show _ = _; rfl
  go_enter Try.func57, Try.ntmps57
  go_wp2_with fail
  refine (start_val (p := fun _ => False) _ [] 7 s5 _ (RowsOf.nil _ _ _ _) (fun _ h => h.elim) (by simp) _ _ F1.out).mono ?_
  rintro e w1 ⟨a1, cap1, rfl, hb1, HL1⟩
  have HK1 : Hid (Blk w1 W.heap.size #[.int .u64 0, .int .u64 0, .int .u64 5, .int .u64 0, .string ⟨#[]⟩, .int .i64 0, .int .i64 0, .int .i64 0, .bool false, .int .i64 3, .int .i64 0] 79) := (Blk.new W _ _).later hb1
  have HB1 : Hid (Below W.heap.size W w1) := ((Below.refl _ W).alloc (Nat.le_refl _) _).trans (hb1.mono (by simp))
  have hg1 : W.heap.size < w1.heap.size := by have := hb1.size; simp at this; omega
  obtain ⟨P1, hP1⟩ : ∃ P1 : Nat → Prop, P1 = fun b => (W.alloc (.cells #[.int .u64 0, .int .u64 0, .int .u64 5, .int .u64 0, .string ⟨#[]⟩, .int .i64 0, .int .i64 0, .int .i64 0, .bool false, .int .i64 3, .int .i64 0] 79)).heap.size ≤ b ∧ b < w1.heap.size := ⟨_, rfl⟩
  have HR1 : Hid (∀ w', Below w1.heap.size w1 w' → RowsOf P1 Opn.enc 12 w' (.slice a1 1 cap1) [⟨7, s5⟩]) := fun w' hw => by
    rw [hP1]; exact HL1.out.below hw (fun b h => h.2)
  have HP1 : Hid (∀ w', Below w1.heap.size w1 w' → ∀ b, P1 b → b < w'.heap.size) := fun w' hw b h => by
    rw [hP1] at h; exact Nat.lt_of_lt_of_le h.2 hw.size
  obtain ⟨z0, z1, z2, z3, z4, z5, z6, z7, z8, z9, z10, zf⟩ := blk11 HK1.out
  clear hb1 hP1 HL1
  go_wp2_with fail
  refine (start_val _ [⟨7, s5⟩] 7 s5 _ (HR1.out _ (Below.refl _ _)) (HP1.out _ (Below.refl _ _)) (by simp) _ _ F2.out).mono ?_
  rintro e w2 ⟨a2, cap2, rfl, hb2, HL2⟩
  have HC2 := hid hb2
  clear hb2 HL2
  go_wp2_with fail
  refine (find_val _ [⟨7, s5⟩] 7 _ (HR1.out _ HC2.out) (HP1.out _ HC2.out) (by simp) _ _ F3.out).mono ?_
  rintro e w3 ⟨rfl, hb3⟩
  have HC3 : Hid (Below w1.heap.size w1 (w3.alloc (.cells #[.int .u64 0, .int .u64 0, .int .u64 5, .int .u64 0, .string ⟨#[]⟩, .int .i64 0, .int .i64 0, .int .i64 0, .bool false, .int .i64 3, .int .i64 0] 79))) := by
    show Below _ _ _
    have h3 := HC2.out.trans (hb3.mono HC2.out.size)
    exact h3.alloc h3.size _
  have hg3 : w1.heap.size ≤ w3.heap.size := (HC2.out.trans (hb3.mono HC2.out.size)).size
  clear hb3
  go_wp2_with fail
  refine (finish_val _ [⟨7, s5⟩] 7 200 2 9 _ (HR1.out _ HC3.out) (HP1.out _ HC3.out) (by simp) _ _ _ F4.out).mono ?_
  rintro e w4 ⟨a4, cap4, rfl, hb4, HL4⟩
  have HK4 : Hid (Blk w4 w3.heap.size #[.int .u64 0, .int .u64 0, .int .u64 5, .int .u64 0, .string ⟨#[]⟩, .int .i64 0, .int .i64 0, .int .i64 0, .bool false, .int .i64 3, .int .i64 0] 79) := (Blk.new w3 _ _).later hb4
  have hg4 : w3.heap.size < w4.heap.size := by have := hb4.size; simp at this; omega
  have HC4 : Hid (Below w1.heap.size w1 (w4.alloc (.cells #[.int .u64 0, .int .u64 0, .int .u64 5, .int .u64 0, .string ⟨#[]⟩, .int .i64 200, .int .i64 0, .int .i64 2, .bool false, .int .i64 3, .int .i64 9] 79))) := by
    show Below _ _ _
    have h4 := HC3.out.trans (hb4.mono HC3.out.size)
    exact h4.alloc h4.size _
  clear hb4 HL4
  go_wp2_with fail
  refine (finish_val _ [⟨7, s5⟩] 8 200 2 9 _ (HR1.out _ HC4.out) (HP1.out _ HC4.out) (by simp) _ _ _ F5.out).mono ?_
  rintro e w5 ⟨a5, cap5, rfl, hb5, HL5⟩
  obtain ⟨x0, x1, x2, x3, x4, x5, x6, x7, x8, x9, x10, xf⟩ := blk11 ((HK4.out.alloc (.cells #[.int .u64 0, .int .u64 0, .int .u64 5, .int .u64 0, .string ⟨#[]⟩, .int .i64 200, .int .i64 0, .int .i64 2, .bool false, .int .i64 3, .int .i64 9] 79)).later hb5)
  obtain ⟨y0, y1, y2, y3, y4, y5, y6, y7, y8, y9, y10, yf⟩ := blk11 ((Blk.new w4 #[.int .u64 0, .int .u64 0, .int .u64 5, .int .u64 0, .string ⟨#[]⟩, .int .i64 200, .int .i64 0, .int .i64 2, .bool false, .int .i64 3, .int .i64 9] 79).later hb5)
  have h5 := HC4.out.trans (hb5.mono HC4.out.size)
  obtain ⟨r0, r1, r2, r3, r4, r5, r6, r7, r8, r9, r10, rf⟩ := blk11 (HK1.out.below h5 hg1)
  have hg5 : w4.heap.size < w5.heap.size := by have := hb5.size; simp at this; omega
  have hg6 : w3.heap.size < w5.heap.size := Nat.lt_trans hg4 hg5
  have hg7 : W.heap.size < w5.heap.size := by omega
  have HB5 : Hid (Below W.heap.size W w5) := HB1.out.trans (h5.mono (by omega))
  clear hb5 HL5 h5 z0 z1 z2 z3 z4 z5 z6 z7 z8 z9 z10 zf
  go_wp2_with fail
  go_ret
  refine ⟨rfl, ?_⟩
  first | exact HB5.out | exact HB5.out.alloc HB5.out.size _
end C24
end Go.Proofs.Ytefaegoajjcfjaa
