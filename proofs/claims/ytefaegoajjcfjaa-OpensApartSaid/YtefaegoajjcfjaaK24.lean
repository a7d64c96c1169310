/- Walks of layer 24 (opens): the law that says what is done; no condition. -/
import Derived.Test.YtefaegoajjcfjaaJ24
import Derived.Test.YtefaegoajjcfjaaI24
namespace Go.Proofs.Ytefaegoajjcfjaa
open Go.RowKit Go.Peri
namespace C24

theorem rstart_val {p : Nat → Prop} (v : Value) (l : List Opn) (no : Int) (s : Sp) (W : World) (h : RowsOf p Opn.enc 12 W v l) (hp : ∀ b, p b → b < W.heap.size) (hl : l.length ≤ 100000) (l' : List Opn) (q : Int) (hr : startR l no s = (l', q)) :
    Calls Try.prog 59 #[v, .int .i64 no, .agg #[.int .u64 s.hi, .int .u64 s.lo, .int .u64 s.id, .int .u64 s.up, .string s.name, .int .i64 s.status, .int .i64 s.seq, .int .i64 s.kids, .bool s.shadow, .int .i64 s.start, .int .i64 s.stop]] W fun e w' =>
      ∃ a cap, e = .returned (.tuple #[.slice a l'.length cap, .int .i64 q]) ∧ Below W.heap.size W w' ∧ Hid (RowsOf (fun b => W.heap.size ≤ b ∧ b < w'.heap.size) Opn.enc 12 w' (.slice a l'.length cap) l') := by
  refine (rstart_any v l no s W h hp (by omega) _ hr).mono ?_
  rintro e w' ⟨_, rfl, u, rfl, hb, hrw⟩
  have h2 := hrw
  obtain ⟨a, cap, rfl, _⟩ := h2
  exact ⟨a, cap, rfl, hb, hrw⟩
theorem rfind_val {p : Nat → Prop} (v : Value) (l : List Opn) (no : Int) (W : World) (h : RowsOf p Opn.enc 12 W v l) (hp : ∀ b, p b → b < W.heap.size) (hl : l.length ≤ 100000) (s : Sp) (q : Bool) (hr : findR l no = (s, q)) :
    Calls Try.prog 63 #[v, .int .i64 no] W fun e w' => e = .returned (.tuple #[.agg #[.int .u64 s.hi, .int .u64 s.lo, .int .u64 s.id, .int .u64 s.up, .string s.name, .int .i64 s.status, .int .i64 s.seq, .int .i64 s.kids, .bool s.shadow, .int .i64 s.start, .int .i64 s.stop], .bool q]) ∧ Below W.heap.size W w' := by
  have := rfind_any v l no W h hp (by omega)
  rw [hr] at this
  exact this
theorem rfinish_val {p : Nat → Prop} (v : Value) (l : List Opn) (no st ki now : Int) (W : World) (h : RowsOf p Opn.enc 12 W v l) (hp : ∀ b, p b → b < W.heap.size) (hl : l.length ≤ 100000) (l' : List Opn) (s : Sp) (q : Int) (hr : finR l no st ki now = (l', s, q)) :
    Calls Try.prog 61 #[v, .int .i64 no, .int .i64 st, .int .i64 ki, .int .i64 now] W fun e w' =>
      ∃ a cap, e = .returned (.tuple #[.slice a l'.length cap, .agg #[.int .u64 s.hi, .int .u64 s.lo, .int .u64 s.id, .int .u64 s.up, .string s.name, .int .i64 s.status, .int .i64 s.seq, .int .i64 s.kids, .bool s.shadow, .int .i64 s.start, .int .i64 s.stop], .int .i64 q]) ∧ Below W.heap.size W w' ∧ Hid (RowsOf (fun b => W.heap.size ≤ b ∧ b < w'.heap.size) Opn.enc 12 w' (.slice a l'.length cap) l') := by
  refine (rfinish_any v l no st ki now W h hp hl _ hr).mono ?_
  rintro e w' ⟨_, rfl, u, rfl, hb, hrw⟩
  have h2 := hrw
  obtain ⟨a, cap, rfl, _⟩ := h2
  exact ⟨a, cap, rfl, hb, hrw⟩
/-- A list that was made in w1 stands in all that has grown out of it. -/
def Kept (w1 : World) (v : Value) (l : List Opn) : Prop := ∃ P : Nat → Prop, (∀ b, P b → b < w1.heap.size) ∧ RowsOf P Opn.enc 12 w1 v l
theorem Kept.mk {B : Nat} {w1 : World} {v : Value} {l : List Opn} (h : Hid (RowsOf (fun b => B ≤ b ∧ b < w1.heap.size) Opn.enc 12 w1 v l)) : Kept w1 v l := ⟨_, fun _ h => h.2, h.out⟩
theorem Kept.later {w1 w2 : World} {v : Value} {l : List Opn} (h : Kept w1 v l) (hb : Below w1.heap.size w1 w2) : Kept w2 v l := by
  obtain ⟨P, h1, h2⟩ := h
  exact ⟨P, fun b h => Nat.lt_of_lt_of_le (h1 b h) hb.size, h2.below hb h1⟩
theorem same_kept (u v : Value) (l m : List Opn) (r : Bool) (W : World) (h : Kept W u l) (h2 : Kept W v m) (hl : l.length ≤ 1000000) (hm : m.length ≤ 1000000) (hr : decide (l = m) = r) :
    Calls Try.prog 64 #[u, v] W fun e w' => e = .returned (.bool r) ∧ Below W.heap.size W w' := by
  obtain ⟨P, h3, h4⟩ := h
  obtain ⟨Q, h5, h6⟩ := h2
  exact same_any u v l m r W h4 h3 h6 h5 (by omega) (by omega) hr
theorem start_len (l : List Opn) (no : Int) (s : Sp) : (startR l no s).1.length ≤ l.length + 1 := by
  unfold startR; split
  · simp
  · split <;> simp
theorem fin_len (l : List Opn) (no st ki now : Int) : (finR l no st ki now).1.length ≤ l.length := by
  unfold finR; split
  · simp; omega
  · simp

set_option maxRecDepth 100000 in
set_option maxHeartbeats 4000000 in
theorem says_walk (v : Value) (l : List Opn) (no : Int) (s : Sp) (x y z : Int) (W : World) (h : RowsOf (· < W.heap.size) Opn.enc 12 W v l) (hl : l.length ≤ 4000000000000) :
    Calls Try.prog 15 #[v, .int .i64 no, .agg #[.int .u64 s.hi, .int .u64 s.lo, .int .u64 s.id, .int .u64 s.up, .string s.name, .int .i64 s.status, .int .i64 s.seq, .int .i64 s.kids, .bool s.shadow, .int .i64 s.start, .int .i64 s.stop], .agg #[.int .i64 x, .int .i64 y, .int .i64 z]] W fun e w' => e = .returned (.bool true) ∧ Below W.heap.size W w' := by
  have HV := hid h
  obtain ⟨a, cap, rfl, hlc, hcm, _⟩ := h
  by_cases h300 : 300 < l.length
  · have h300' : (300 : Int) < (l.length : Int) := by omega
    go_enter Try.func15, Try.ntmps15
    go_wp2_with fail
    refine (known_any _).mono ?_
    rintro e w1 ⟨rfl, hb1⟩
    have HB1 : Hid (Below W.heap.size W w1) := by
      show Below _ _ _
      exact (((Below.refl _ W).alloc (Nat.le_refl _) _).alloc (by simp) _).trans (hb1.mono (by simp <;> omega))
    clear hb1
    go_wp2_with fail
    go_ret
    exact ⟨rfl, HB1.out⟩
  have h300' : ¬ (300 : Int) < (l.length : Int) := by omega
  have hl1 : l.length ≤ 100000 := by omega
  obtain ⟨ls, qs, hs⟩ : ∃ a b, startR l no s = (a, b) := ⟨_, _, rfl⟩
  obtain ⟨lf, fs, qf, hf⟩ : ∃ a b c, finR l no x y z = (a, b, c) := ⟨_, _, _, rfl⟩
  obtain ⟨ds, qd, hd⟩ : ∃ a b, findR l no = (a, b) := ⟨_, _, rfl⟩
  have hls : ls.length ≤ 1000000 := by have := start_len l no s; rw [hs] at this; simp at this; omega
  have hlf : lf.length ≤ 1000000 := by have := fin_len l no x y z; rw [hf] at this; simp at this; omega
  have HS := hid hs
  have HF := hid hf
  have HD := hid hd
  have HLS := hid hls
  have HLF := hid hlf
  have ee1 : ∀ w, (Op.equalIn 10000 79 (.agg #[.int .u64 fs.hi, .int .u64 fs.lo, .int .u64 fs.id, .int .u64 fs.up, .string fs.name, .int .i64 fs.status, .int .i64 fs.seq, .int .i64 fs.kids, .bool fs.shadow, .int .i64 fs.start, .int .i64 fs.stop]) (.agg #[.int .u64 fs.hi, .int .u64 fs.lo, .int .u64 fs.id, .int .u64 fs.up, .string fs.name, .int .i64 fs.status, .int .i64 fs.seq, .int .i64 fs.kids, .bool fs.shadow, .int .i64 fs.start, .int .i64 fs.stop])).run Try.prog w = .ok true w := fun w => by
    have := eqSp fs fs w; rw [decide_eq_true rfl] at this; exact this
  have ee2 : ∀ w, (Op.equalIn 10000 79 (.agg #[.int .u64 ds.hi, .int .u64 ds.lo, .int .u64 ds.id, .int .u64 ds.up, .string ds.name, .int .i64 ds.status, .int .i64 ds.seq, .int .i64 ds.kids, .bool ds.shadow, .int .i64 ds.start, .int .i64 ds.stop]) (.agg #[.int .u64 ds.hi, .int .u64 ds.lo, .int .u64 ds.id, .int .u64 ds.up, .string ds.name, .int .i64 ds.status, .int .i64 ds.seq, .int .i64 ds.kids, .bool ds.shadow, .int .i64 ds.start, .int .i64 ds.stop])).run Try.prog w = .ok true w := fun w => by
    have := eqSp ds ds w; rw [decide_eq_true rfl] at this; exact this
  have HVB : Hid (∀ w', Below W.heap.size W w' → RowsOf (· < W.heap.size) Opn.enc 12 w' (.slice a l.length cap) l) := fun w' hw => HV.out.below hw (fun b h => h)
  have HVP : Hid (∀ w', Below W.heap.size W w' → ∀ b, b < W.heap.size → b < w'.heap.size) := fun w' hw b h => Nat.lt_of_lt_of_le h hw.size
  have HW0 : Hid (Below W.heap.size W ((W.alloc (.cells #[.int .u64 s.hi, .int .u64 s.lo, .int .u64 s.id, .int .u64 s.up, .string s.name, .int .i64 s.status, .int .i64 s.seq, .int .i64 s.kids, .bool s.shadow, .int .i64 s.start, .int .i64 s.stop] 79)).alloc (.cells #[.int .i64 x, .int .i64 y, .int .i64 z] 25))) := ((Below.refl _ W).alloc (Nat.le_refl _) _).alloc (by simp) _
  clear hs hf hd hls hlf h300
  go_enter Try.func15, Try.ntmps15
  go_wp2_with fail
  refine (start_val _ l no s _ (HVB.out _ HW0.out) (HVP.out _ HW0.out) hl1 _ _ HS.out).mono ?_
  rintro e w1 ⟨a1, cap1, rfl, hb1, HL1⟩
  have HB1 := hid (HW0.out.trans (hb1.mono HW0.out.size))
  have HS1 : Hid (Blk w1 W.heap.size #[.int .u64 s.hi, .int .u64 s.lo, .int .u64 s.id, .int .u64 s.up, .string s.name, .int .i64 s.status, .int .i64 s.seq, .int .i64 s.kids, .bool s.shadow, .int .i64 s.start, .int .i64 s.stop] 79) := ((Blk.new W #[.int .u64 s.hi, .int .u64 s.lo, .int .u64 s.id, .int .u64 s.up, .string s.name, .int .i64 s.status, .int .i64 s.seq, .int .i64 s.kids, .bool s.shadow, .int .i64 s.start, .int .i64 s.stop] 79).alloc _).later hb1
  have HX1 : Hid (Blk w1 (W.heap.size + 1) #[.int .i64 x, .int .i64 y, .int .i64 z] 25) := (Blk.new' (W.alloc (.cells #[.int .u64 s.hi, .int .u64 s.lo, .int .u64 s.id, .int .u64 s.up, .string s.name, .int .i64 s.status, .int .i64 s.seq, .int .i64 s.kids, .bool s.shadow, .int .i64 s.start, .int .i64 s.stop] 79)) _ 25 (by simp)).later hb1
  have HQ1 := hid (Kept.mk HL1)
  obtain ⟨z0, z1, z2, z3, z4, z5, z6, z7, z8, z9, z10, zf⟩ := blk11 HS1.out
  have g1 : W.heap.size + 1 < w1.heap.size := by have := hb1.size; simp at this; omega
  clear hb1 HL1
  go_wp2_with fail
  refine (rstart_val _ l no s _ (HVB.out _ HB1.out) (HVP.out _ HB1.out) hl1 _ _ HS.out).mono ?_
  rintro e w2 ⟨a2, cap2, rfl, hb2, HL2⟩
  have HB2 := hid (HB1.out.trans (hb2.mono HB1.out.size))
  have HX2 := hid (HX1.out.later hb2)
  have HQ12 := hid (HQ1.out.later hb2)
  have HQ2 := hid (Kept.mk HL2)
  have x0 := HX2.out.cell 0
  have x1 := HX2.out.cell 1
  have x2 := HX2.out.cell 2
  simp only [List.getElem?_toArray, List.getElem?_cons_zero, List.getElem?_cons_succ] at x0 x1 x2
  have g2 : W.heap.size + 1 < w2.heap.size := Nat.lt_of_lt_of_le g1 hb2.size
  clear hb2 HL2 z0 z1 z2 z3 z4 z5 z6 z7 z8 z9 z10 zf
  go_wp2_with fail
  refine (finish_val _ l no x y z _ (HVB.out _ HB2.out) (HVP.out _ HB2.out) hl1 _ _ _ HF.out).mono ?_
  rintro e w3 ⟨a3, cap3, rfl, hb3, HL3⟩
  have HB3 : Hid (Below W.heap.size W (w3.alloc (.cells #[.int .u64 fs.hi, .int .u64 fs.lo, .int .u64 fs.id, .int .u64 fs.up, .string fs.name, .int .i64 fs.status, .int .i64 fs.seq, .int .i64 fs.kids, .bool fs.shadow, .int .i64 fs.start, .int .i64 fs.stop] 79))) := by
    show Below _ _ _
    have h3 := HB2.out.trans (hb3.mono HB2.out.size)
    exact h3.alloc h3.size _
  have HX3 := hid (HX2.out.later hb3)
  have HQ13 := hid ((HQ12.out.later hb3).later ((Below.refl _ w3).alloc (Nat.le_refl _) (.cells #[.int .u64 fs.hi, .int .u64 fs.lo, .int .u64 fs.id, .int .u64 fs.up, .string fs.name, .int .i64 fs.status, .int .i64 fs.seq, .int .i64 fs.kids, .bool fs.shadow, .int .i64 fs.start, .int .i64 fs.stop] 79)))
  have HQ23 := hid ((HQ2.out.later hb3).later ((Below.refl _ w3).alloc (Nat.le_refl _) (.cells #[.int .u64 fs.hi, .int .u64 fs.lo, .int .u64 fs.id, .int .u64 fs.up, .string fs.name, .int .i64 fs.status, .int .i64 fs.seq, .int .i64 fs.kids, .bool fs.shadow, .int .i64 fs.start, .int .i64 fs.stop] 79)))
  have HQ3 := hid ((Kept.mk HL3).later ((Below.refl _ w3).alloc (Nat.le_refl _) (.cells #[.int .u64 fs.hi, .int .u64 fs.lo, .int .u64 fs.id, .int .u64 fs.up, .string fs.name, .int .i64 fs.status, .int .i64 fs.seq, .int .i64 fs.kids, .bool fs.shadow, .int .i64 fs.start, .int .i64 fs.stop] 79)))
  have g3 : W.heap.size + 1 < w3.heap.size := Nat.lt_of_lt_of_le g2 hb3.size
  have x0 := HX3.out.cell 0
  have x1 := HX3.out.cell 1
  have x2 := HX3.out.cell 2
  simp only [List.getElem?_toArray, List.getElem?_cons_zero, List.getElem?_cons_succ] at x0 x1 x2
  clear hb3 HL3
  go_wp2_with fail
  refine (rfinish_val _ l no x y z _ (HVB.out _ HB3.out) (HVP.out _ HB3.out) hl1 _ _ _ HF.out).mono ?_
  rintro e w4 ⟨a4, cap4, rfl, hb4, HL4⟩
  have HB4 : Hid (Below W.heap.size W (w4.alloc (.cells #[.int .u64 fs.hi, .int .u64 fs.lo, .int .u64 fs.id, .int .u64 fs.up, .string fs.name, .int .i64 fs.status, .int .i64 fs.seq, .int .i64 fs.kids, .bool fs.shadow, .int .i64 fs.start, .int .i64 fs.stop] 79))) := by
    show Below _ _ _
    have h4 := HB3.out.trans (hb4.mono HB3.out.size)
    exact h4.alloc h4.size _
  have HK4 : Hid (Blk w4 w3.heap.size #[.int .u64 fs.hi, .int .u64 fs.lo, .int .u64 fs.id, .int .u64 fs.up, .string fs.name, .int .i64 fs.status, .int .i64 fs.seq, .int .i64 fs.kids, .bool fs.shadow, .int .i64 fs.start, .int .i64 fs.stop] 79) := (Blk.new w3 _ _).later hb4
  have n4 : Below w4.heap.size w4 (w4.alloc (.cells #[.int .u64 fs.hi, .int .u64 fs.lo, .int .u64 fs.id, .int .u64 fs.up, .string fs.name, .int .i64 fs.status, .int .i64 fs.seq, .int .i64 fs.kids, .bool fs.shadow, .int .i64 fs.start, .int .i64 fs.stop] 79)) := (Below.refl _ w4).alloc (Nat.le_refl _) _
  have HQ14 := hid ((HQ13.out.later hb4).later n4)
  have HQ24 := hid ((HQ23.out.later hb4).later n4)
  have HQ34 := hid ((HQ3.out.later hb4).later n4)
  have HQ4 := hid ((Kept.mk HL4).later n4)
  have g4 : w3.heap.size < w4.heap.size := by have := hb4.size; simp at this; omega
  clear hb4 HL4 n4 x0 x1 x2
  go_wp2_with fail
  refine (find_val _ l no _ (HVB.out _ HB4.out) (HVP.out _ HB4.out) hl1 _ _ HD.out).mono ?_
  rintro e w5 ⟨rfl, hb5⟩
  have HB5 : Hid (Below W.heap.size W (w5.alloc (.cells #[.int .u64 ds.hi, .int .u64 ds.lo, .int .u64 ds.id, .int .u64 ds.up, .string ds.name, .int .i64 ds.status, .int .i64 ds.seq, .int .i64 ds.kids, .bool ds.shadow, .int .i64 ds.start, .int .i64 ds.stop] 79))) := by
    show Below _ _ _
    have h5 := HB4.out.trans (hb5.mono HB4.out.size)
    exact h5.alloc h5.size _
  have HK5 : Hid (Blk w5 w3.heap.size #[.int .u64 fs.hi, .int .u64 fs.lo, .int .u64 fs.id, .int .u64 fs.up, .string fs.name, .int .i64 fs.status, .int .i64 fs.seq, .int .i64 fs.kids, .bool fs.shadow, .int .i64 fs.start, .int .i64 fs.stop] 79 ∧ Blk w5 w4.heap.size #[.int .u64 fs.hi, .int .u64 fs.lo, .int .u64 fs.id, .int .u64 fs.up, .string fs.name, .int .i64 fs.status, .int .i64 fs.seq, .int .i64 fs.kids, .bool fs.shadow, .int .i64 fs.start, .int .i64 fs.stop] 79) := ⟨(HK4.out.alloc _).later hb5, (Blk.new w4 _ _).later hb5⟩
  have n5 : Below w5.heap.size w5 (w5.alloc (.cells #[.int .u64 ds.hi, .int .u64 ds.lo, .int .u64 ds.id, .int .u64 ds.up, .string ds.name, .int .i64 ds.status, .int .i64 ds.seq, .int .i64 ds.kids, .bool ds.shadow, .int .i64 ds.start, .int .i64 ds.stop] 79)) := (Below.refl _ w5).alloc (Nat.le_refl _) _
  have HQ5 := hid (And.intro ((HQ14.out.later hb5).later n5) (And.intro ((HQ24.out.later hb5).later n5) (And.intro ((HQ34.out.later hb5).later n5) ((HQ4.out.later hb5).later n5))))
  have g5 : w4.heap.size < w5.heap.size := by have := hb5.size; simp at this; omega
  clear hb5 n5
  go_wp2_with fail
  refine (rfind_val _ l no _ (HVB.out _ HB5.out) (HVP.out _ HB5.out) hl1 _ _ HD.out).mono ?_
  rintro e w6 ⟨rfl, hb6⟩
  have HB6 : Hid (Below W.heap.size W (w6.alloc (.cells #[.int .u64 ds.hi, .int .u64 ds.lo, .int .u64 ds.id, .int .u64 ds.up, .string ds.name, .int .i64 ds.status, .int .i64 ds.seq, .int .i64 ds.kids, .bool ds.shadow, .int .i64 ds.start, .int .i64 ds.stop] 79))) := by
    show Below _ _ _
    have h6 := HB5.out.trans (hb6.mono HB5.out.size)
    exact h6.alloc h6.size _
  have HK6 : Hid (Blk w6 w3.heap.size #[.int .u64 fs.hi, .int .u64 fs.lo, .int .u64 fs.id, .int .u64 fs.up, .string fs.name, .int .i64 fs.status, .int .i64 fs.seq, .int .i64 fs.kids, .bool fs.shadow, .int .i64 fs.start, .int .i64 fs.stop] 79 ∧ Blk w6 w4.heap.size #[.int .u64 fs.hi, .int .u64 fs.lo, .int .u64 fs.id, .int .u64 fs.up, .string fs.name, .int .i64 fs.status, .int .i64 fs.seq, .int .i64 fs.kids, .bool fs.shadow, .int .i64 fs.start, .int .i64 fs.stop] 79 ∧ Blk w6 w5.heap.size #[.int .u64 ds.hi, .int .u64 ds.lo, .int .u64 ds.id, .int .u64 ds.up, .string ds.name, .int .i64 ds.status, .int .i64 ds.seq, .int .i64 ds.kids, .bool ds.shadow, .int .i64 ds.start, .int .i64 ds.stop] 79) := ⟨(HK5.out.1.alloc _).later hb6, (HK5.out.2.alloc _).later hb6, (Blk.new w5 _ _).later hb6⟩
  have n6 : Below w6.heap.size w6 (w6.alloc (.cells #[.int .u64 ds.hi, .int .u64 ds.lo, .int .u64 ds.id, .int .u64 ds.up, .string ds.name, .int .i64 ds.status, .int .i64 ds.seq, .int .i64 ds.kids, .bool ds.shadow, .int .i64 ds.start, .int .i64 ds.stop] 79)) := (Below.refl _ w6).alloc (Nat.le_refl _) _
  have HQ6 := hid (And.intro ((HQ5.out.1.later hb6).later n6) (And.intro ((HQ5.out.2.1.later hb6).later n6) (And.intro ((HQ5.out.2.2.1.later hb6).later n6) ((HQ5.out.2.2.2.later hb6).later n6))))
  have g6 : w5.heap.size < w6.heap.size := by have := hb6.size; simp at this; omega
  clear hb6 n6
  go_wp2_with fail
  refine (same_kept _ _ ls ls true _ HQ6.out.1 HQ6.out.2.1 HLS.out HLS.out (decide_eq_true rfl)).mono ?_
  rintro e w7 ⟨rfl, hb7⟩
  have HB7 := hid (HB6.out.trans (hb7.mono HB6.out.size))
  have HK7 : Hid (Blk w7 w3.heap.size #[.int .u64 fs.hi, .int .u64 fs.lo, .int .u64 fs.id, .int .u64 fs.up, .string fs.name, .int .i64 fs.status, .int .i64 fs.seq, .int .i64 fs.kids, .bool fs.shadow, .int .i64 fs.start, .int .i64 fs.stop] 79 ∧ Blk w7 w4.heap.size #[.int .u64 fs.hi, .int .u64 fs.lo, .int .u64 fs.id, .int .u64 fs.up, .string fs.name, .int .i64 fs.status, .int .i64 fs.seq, .int .i64 fs.kids, .bool fs.shadow, .int .i64 fs.start, .int .i64 fs.stop] 79 ∧ Blk w7 w5.heap.size #[.int .u64 ds.hi, .int .u64 ds.lo, .int .u64 ds.id, .int .u64 ds.up, .string ds.name, .int .i64 ds.status, .int .i64 ds.seq, .int .i64 ds.kids, .bool ds.shadow, .int .i64 ds.start, .int .i64 ds.stop] 79 ∧ Blk w7 w6.heap.size #[.int .u64 ds.hi, .int .u64 ds.lo, .int .u64 ds.id, .int .u64 ds.up, .string ds.name, .int .i64 ds.status, .int .i64 ds.seq, .int .i64 ds.kids, .bool ds.shadow, .int .i64 ds.start, .int .i64 ds.stop] 79) := ⟨(HK6.out.1.alloc _).later hb7, (HK6.out.2.1.alloc _).later hb7, (HK6.out.2.2.alloc _).later hb7, (Blk.new w6 _ _).later hb7⟩
  have HQ7 := hid (And.intro (HQ6.out.2.2.1.later hb7) (HQ6.out.2.2.2.later hb7))
  clear hb7
  go_wp2_with fail
  refine (same_kept _ _ lf lf true _ HQ7.out.1 HQ7.out.2 HLF.out HLF.out (decide_eq_true rfl)).mono ?_
  rintro e w8 ⟨rfl, hb8⟩
  have HB8 := hid (HB7.out.trans (hb8.mono HB7.out.size))
  obtain ⟨c0, c1, c2, c3, c4, c5, c6, c7, c8, c9, c10, cf⟩ := blk11 (HK7.out.1.later hb8)
  obtain ⟨d0, d1, d2, d3, d4, d5, d6, d7, d8, d9, d10, df⟩ := blk11 (HK7.out.2.1.later hb8)
  obtain ⟨e0, e1, e2, e3, e4, e5, e6, e7, e8, e9, e10, ef⟩ := blk11 (HK7.out.2.2.1.later hb8)
  obtain ⟨f0, f1, f2, f3, f4, f5, f6, f7, f8, f9, f10, ff⟩ := blk11 (HK7.out.2.2.2.later hb8)
  clear hb8
  go_wp2_with fail
  refine (known_any _).mono ?_
  rintro e w9 ⟨rfl, hb9⟩
  have HB9 := hid (HB8.out.trans (hb9.mono HB8.out.size))
  clear hb9
  go_wp2_with fail
  go_ret
  exact ⟨rfl, HB9.out⟩
end C24
end Go.Proofs.Ytefaegoajjcfjaa
