/- Walks of layer 24 (opens): the law that what is started is found, and finished once; no condition. -/
import Derived.Test.YtefaegoajjcfjaaK24
import Derived.Test.YtefaegoajjcfjaaP24
namespace Go.Proofs.Ytefaegoajjcfjaa
open Go.RowKit Go.Peri
namespace C24
theorem arg_kept {l : List Opn} {v : Value} {W : World} (h : RowsOf (· < W.heap.size) Opn.enc 12 W v l) : Kept W v l := ⟨_, fun _ h => h, h⟩
theorem start_kept (v : Value) (l : List Opn) (no : Int) (s : Sp) (W : World) (h : Kept W v l) (hl : l.length ≤ 100000) (l' : List Opn) (q : Int) (hr : startR l no s = (l', q)) :
    Calls Try.prog 58 #[v, .int .i64 no, .agg #[.int .u64 s.hi, .int .u64 s.lo, .int .u64 s.id, .int .u64 s.up, .string s.name, .int .i64 s.status, .int .i64 s.seq, .int .i64 s.kids, .bool s.shadow, .int .i64 s.start, .int .i64 s.stop]] W fun e w' => ∃ a cap, e = .returned (.tuple #[.slice a l'.length cap, .int .i64 q]) ∧ Below W.heap.size W w' ∧ Hid (Kept w' (.slice a l'.length cap) l') := by
  obtain ⟨P, h1, h2⟩ := h
  refine (start_val v l no s W h2 h1 hl l' q hr).mono ?_
  rintro e w' ⟨a, cap, rfl, hb, hk⟩
  exact ⟨a, cap, rfl, hb, Kept.mk hk⟩
theorem find_kept (v : Value) (l : List Opn) (no : Int) (W : World) (h : Kept W v l) (hl : l.length ≤ 100000) (s : Sp) (q : Bool) (hr : findR l no = (s, q)) :
    Calls Try.prog 62 #[v, .int .i64 no] W fun e w' => e = .returned (.tuple #[.agg #[.int .u64 s.hi, .int .u64 s.lo, .int .u64 s.id, .int .u64 s.up, .string s.name, .int .i64 s.status, .int .i64 s.seq, .int .i64 s.kids, .bool s.shadow, .int .i64 s.start, .int .i64 s.stop], .bool q]) ∧ Below W.heap.size W w' := by
  obtain ⟨P, h1, h2⟩ := h
  exact find_val v l no W h2 h1 hl s q hr
theorem finish_kept (v : Value) (l : List Opn) (no st ki now : Int) (W : World) (h : Kept W v l) (hl : l.length ≤ 100000) (l' : List Opn) (s : Sp) (q : Int) (hr : finR l no st ki now = (l', s, q)) :
    Calls Try.prog 60 #[v, .int .i64 no, .int .i64 st, .int .i64 ki, .int .i64 now] W fun e w' => ∃ a cap, e = .returned (.tuple #[.slice a l'.length cap, .agg #[.int .u64 s.hi, .int .u64 s.lo, .int .u64 s.id, .int .u64 s.up, .string s.name, .int .i64 s.status, .int .i64 s.seq, .int .i64 s.kids, .bool s.shadow, .int .i64 s.start, .int .i64 s.stop], .int .i64 q]) ∧ Below W.heap.size W w' ∧ Hid (Kept w' (.slice a l'.length cap) l') := by
  obtain ⟨P, h1, h2⟩ := h
  refine (finish_val v l no st ki now W h2 h1 hl l' s q hr).mono ?_
  rintro e w' ⟨a, cap, rfl, hb, hk⟩
  exact ⟨a, cap, rfl, hb, Kept.mk hk⟩
/-- The same, apart from a block. -/
def KeptX (g : Nat) (w1 : World) (v : Value) (l : List Opn) : Prop := ∃ P : Nat → Prop, (∀ b, P b → b < w1.heap.size ∧ b ≠ g) ∧ RowsOf P Opn.enc 12 w1 v l
theorem KeptX.later {g : Nat} {w1 w2 : World} {v : Value} {l : List Opn} (h : KeptX g w1 v l) (hb : Below w1.heap.size w1 w2) : KeptX g w2 v l := by
  obtain ⟨P, h1, h2⟩ := h
  exact ⟨P, fun b h => ⟨Nat.lt_of_lt_of_le (h1 b h).1 hb.size, (h1 b h).2⟩, h2.below hb (fun b h => (h1 b h).1)⟩
theorem KeptX.set {g i : Nat} {u : Value} {w1 : World} {v : Value} {l : List Opn} (h : KeptX g w1 v l) : KeptX g (w1.setCell ⟨g, i, none⟩ u) v l := by
  obtain ⟨P, h1, h2⟩ := h
  refine ⟨P, fun b h => ⟨by simpa using (h1 b h).1, (h1 b h).2⟩, h2.cells fun b o hb => ?_⟩
  exact World.cell?_of_block (Below.heap_setCell _ _ _ _ (h1 b hb).2)
theorem KeptX.kept {g : Nat} {w1 : World} {v : Value} {l : List Opn} (h : KeptX g w1 v l) : Kept w1 v l := by
  obtain ⟨P, h1, h2⟩ := h
  exact ⟨P, fun b h => (h1 b h).1, h2⟩

set_option maxRecDepth 100000 in
set_option maxHeartbeats 4000000 in
theorem back_walk (v : Value) (l : List Opn) (no : Int) (s : Sp) (W : World) (h : RowsOf (· < W.heap.size) Opn.enc 12 W v l) (hl : l.length ≤ 4000000000000) :
    Calls Try.prog 16 #[v, .int .i64 no, .agg #[.int .u64 s.hi, .int .u64 s.lo, .int .u64 s.id, .int .u64 s.up, .string s.name, .int .i64 s.status, .int .i64 s.seq, .int .i64 s.kids, .bool s.shadow, .int .i64 s.start, .int .i64 s.stop]] W fun e w' => e = .returned (.bool true) ∧ Below W.heap.size W w' := by
  have HV := hid (arg_kept h)
  have HA : Hid (KeptX W.heap.size W v l) := ⟨_, fun b hb => ⟨hb, Nat.ne_of_lt hb⟩, h⟩
  obtain ⟨a, cap, rfl, hlc, hcm, _⟩ := h
  by_cases h300 : 300 < l.length
  · have h300' : (300 : Int) < (l.length : Int) := by omega
    go_enter Try.func16, Try.ntmps16
    go_wp2_with fail
    refine (known_any _).mono ?_
    rintro e w1 ⟨rfl, hb1⟩
    have HB1 : Hid (Below W.heap.size W w1) := by
      show Below _ _ _
      exact ((Below.refl _ W).alloc (Nat.le_refl _) _).trans (hb1.mono (by simp <;> omega))
    clear hb1
    go_wp2_with fail
    go_ret
    exact ⟨rfl, HB1.out⟩
  have h300' : ¬ (300 : Int) < (l.length : Int) := by omega
  have hl1 : l.length ≤ 100000 := by omega
  have HW0 : Hid (Below W.heap.size W (W.alloc (.cells #[.int .u64 s.hi, .int .u64 s.lo, .int .u64 s.id, .int .u64 s.up, .string s.name, .int .i64 s.status, .int .i64 s.seq, .int .i64 s.kids, .bool s.shadow, .int .i64 s.start, .int .i64 s.stop] 79))) := (Below.refl _ W).alloc (Nat.le_refl _) _
  clear h300
  obtain ⟨ls, qs, hs⟩ : ∃ a b, startR l no s = (a, b) := ⟨_, _, rfl⟩
  by_cases hq : qs = 0
  · subst hq
    obtain ⟨hx, rfl, h256⟩ := back_start l no s ls hs
    have HS := hid hs
    have HX := hid hx
    have HF1 := hid (back_find l no s hx)
    have HF2 := hid (back_gone l no hx)
    have HF3 := hid (back_none l no 0 0 0 hx)
    have HFin := hid (back_fin l no s s.status s.kids s.stop hx)
    have hlen : (l ++ [(⟨no, s⟩ : Opn)]).length ≤ 100000 := by simp; omega
    have HLen := hid hlen
    obtain ⟨L, hL⟩ : ∃ L, L = l ++ [(⟨no, s⟩ : Opn)] := ⟨_, rfl⟩
    rw [← hL] at HS HF1 HFin HLen
    clear hs hx hL hlen
    by_cases hmx : s.start < s.stop
    · have HMX : Hid (max s.stop s.start = s.stop) := Int.max_eq_left (by omega)
      have HFin2 : Hid (finR L no s.status s.kids s.stop = (l, { s with stop := s.stop }, 0)) := by
        show _ = _
        rw [HFin.out, HMX.out]
      have ee1 : ∀ w, (Op.equalIn 10000 79 (.agg #[.int .u64 s.hi, .int .u64 s.lo, .int .u64 s.id, .int .u64 s.up, .string s.name, .int .i64 s.status, .int .i64 s.seq, .int .i64 s.kids, .bool s.shadow, .int .i64 s.start, .int .i64 s.stop]) (.agg #[.int .u64 s.hi, .int .u64 s.lo, .int .u64 s.id, .int .u64 s.up, .string s.name, .int .i64 s.status, .int .i64 s.seq, .int .i64 s.kids, .bool s.shadow, .int .i64 s.start, .int .i64 s.stop])).run Try.prog w = .ok true w := fun w => by
        have := eqSp { s with stop := s.stop } { s with stop := s.stop } w; rw [decide_eq_true rfl] at this; exact this
      go_enter Try.func16, Try.ntmps16
      go_wp2_with fail
      refine (start_kept _ l no s _ (HV.out.later HW0.out) hl1 _ _ HS.out).mono ?_
      rintro e w1 ⟨a1, cap1, rfl, hb1, HL1⟩
      have HB1 := hid (HW0.out.trans (hb1.mono HW0.out.size))
      have HS1 : Hid (Blk w1 W.heap.size #[.int .u64 s.hi, .int .u64 s.lo, .int .u64 s.id, .int .u64 s.up, .string s.name, .int .i64 s.status, .int .i64 s.seq, .int .i64 s.kids, .bool s.shadow, .int .i64 s.start, .int .i64 s.stop] 79) := (Blk.new W #[.int .u64 s.hi, .int .u64 s.lo, .int .u64 s.id, .int .u64 s.up, .string s.name, .int .i64 s.status, .int .i64 s.seq, .int .i64 s.kids, .bool s.shadow, .int .i64 s.start, .int .i64 s.stop] 79).later hb1
      clear hb1
      go_wp2_with fail
      refine (find_kept _ L no _ HL1.out HLen.out s true HF1.out).mono ?_
      rintro e w2 ⟨rfl, hb2⟩
      have HB2 : Hid (Below W.heap.size W (w2.alloc (.cells #[.int .u64 s.hi, .int .u64 s.lo, .int .u64 s.id, .int .u64 s.up, .string s.name, .int .i64 s.status, .int .i64 s.seq, .int .i64 s.kids, .bool s.shadow, .int .i64 s.start, .int .i64 s.stop] 79))) := by
        show Below _ _ _
        have h2 := HB1.out.trans (hb2.mono HB1.out.size)
        exact h2.alloc h2.size _
      have HS2 : Hid (Blk (w2.alloc (.cells #[.int .u64 s.hi, .int .u64 s.lo, .int .u64 s.id, .int .u64 s.up, .string s.name, .int .i64 s.status, .int .i64 s.seq, .int .i64 s.kids, .bool s.shadow, .int .i64 s.start, .int .i64 s.stop] 79)) W.heap.size #[.int .u64 s.hi, .int .u64 s.lo, .int .u64 s.id, .int .u64 s.up, .string s.name, .int .i64 s.status, .int .i64 s.seq, .int .i64 s.kids, .bool s.shadow, .int .i64 s.start, .int .i64 s.stop] 79) := (HS1.out.later hb2).alloc _
      have n2 : Below w2.heap.size w2 (w2.alloc (.cells #[.int .u64 s.hi, .int .u64 s.lo, .int .u64 s.id, .int .u64 s.up, .string s.name, .int .i64 s.status, .int .i64 s.seq, .int .i64 s.kids, .bool s.shadow, .int .i64 s.start, .int .i64 s.stop] 79)) := (Below.refl _ w2).alloc (Nat.le_refl _) _
      have HL2 := hid ((HL1.out.later hb2).later n2)
      have g2 : W.heap.size < w2.heap.size := Nat.lt_of_lt_of_le HS1.out.lt hb2.size
      obtain ⟨z0, z1, z2, z3, z4, z5, z6, z7, z8, z9, z10, zf⟩ := blk11 (HS1.out.later hb2)
      clear hb2 n2
      go_wp2_with fail
      obtain ⟨P2, p1, p2⟩ := HL2.out
      refine (finish_val _ L no s.status s.kids s.stop _ p2 p1 HLen.out l _ 0 HFin2.out).mono ?_
      rintro e w3 ⟨a3, cap3, rfl, hb3, HL3⟩
      have HLX : Hid (KeptX W.heap.size w3 (.slice a3 l.length cap3) l) := ⟨_, fun b hb => ⟨hb.2, by have := hb.1; simp at this; omega⟩, HL3.out⟩
      have HL3 := hid HLX.out.kept
      clear p1 p2
      have HB3 : Hid (Below W.heap.size W (w3.alloc (.cells #[.int .u64 s.hi, .int .u64 s.lo, .int .u64 s.id, .int .u64 s.up, .string s.name, .int .i64 s.status, .int .i64 s.seq, .int .i64 s.kids, .bool s.shadow, .int .i64 s.start, .int .i64 s.stop] 79))) := by
        show Below _ _ _
        have h3 := HB2.out.trans (hb3.mono HB2.out.size)
        exact h3.alloc h3.size _
      have HS3 : Hid (Blk w3 W.heap.size #[.int .u64 s.hi, .int .u64 s.lo, .int .u64 s.id, .int .u64 s.up, .string s.name, .int .i64 s.status, .int .i64 s.seq, .int .i64 s.kids, .bool s.shadow, .int .i64 s.start, .int .i64 s.stop] 79 ∧ Blk w3 w2.heap.size #[.int .u64 s.hi, .int .u64 s.lo, .int .u64 s.id, .int .u64 s.up, .string s.name, .int .i64 s.status, .int .i64 s.seq, .int .i64 s.kids, .bool s.shadow, .int .i64 s.start, .int .i64 s.stop] 79) := ⟨HS2.out.later hb3, (Blk.new w2 _ _).later hb3⟩
      have n3 : Below w3.heap.size w3 (w3.alloc (.cells #[.int .u64 s.hi, .int .u64 s.lo, .int .u64 s.id, .int .u64 s.up, .string s.name, .int .i64 s.status, .int .i64 s.seq, .int .i64 s.kids, .bool s.shadow, .int .i64 s.start, .int .i64 s.stop] 79)) := (Below.refl _ w3).alloc (Nat.le_refl _) _
      have HL4 := hid (HL3.out.later n3)
      have HX4 := hid (HLX.out.later n3)
      have g3 : w2.heap.size < w3.heap.size := HS3.out.2.lt
      clear hb3 n3 z0 z1 z2 z3 z4 z5 z6 z7 z8 z9 z10 zf
      go_wp2_with fail
      refine (find_kept _ l no _ HL4.out hl1 sp0 false HF2.out).mono ?_
      rintro e w4 ⟨rfl, hb4⟩
      have HB4 : Hid (Below W.heap.size W (w4.alloc (.cells #[.int .u64 sp0.hi, .int .u64 sp0.lo, .int .u64 sp0.id, .int .u64 sp0.up, .string sp0.name, .int .i64 sp0.status, .int .i64 sp0.seq, .int .i64 sp0.kids, .bool sp0.shadow, .int .i64 sp0.start, .int .i64 sp0.stop] 79))) := by
        show Below _ _ _
        have h4 := HB3.out.trans (hb4.mono HB3.out.size)
        exact h4.alloc h4.size _
      have HS4 : Hid (Blk w4 W.heap.size #[.int .u64 s.hi, .int .u64 s.lo, .int .u64 s.id, .int .u64 s.up, .string s.name, .int .i64 s.status, .int .i64 s.seq, .int .i64 s.kids, .bool s.shadow, .int .i64 s.start, .int .i64 s.stop] 79 ∧ Blk w4 w2.heap.size #[.int .u64 s.hi, .int .u64 s.lo, .int .u64 s.id, .int .u64 s.up, .string s.name, .int .i64 s.status, .int .i64 s.seq, .int .i64 s.kids, .bool s.shadow, .int .i64 s.start, .int .i64 s.stop] 79 ∧ Blk w4 w3.heap.size #[.int .u64 s.hi, .int .u64 s.lo, .int .u64 s.id, .int .u64 s.up, .string s.name, .int .i64 s.status, .int .i64 s.seq, .int .i64 s.kids, .bool s.shadow, .int .i64 s.start, .int .i64 s.stop] 79) := ⟨(HS3.out.1.alloc _).later hb4, (HS3.out.2.alloc _).later hb4, (Blk.new w3 _ _).later hb4⟩
      have n4 : Below w4.heap.size w4 (w4.alloc (.cells #[.int .u64 sp0.hi, .int .u64 sp0.lo, .int .u64 sp0.id, .int .u64 sp0.up, .string sp0.name, .int .i64 sp0.status, .int .i64 sp0.seq, .int .i64 sp0.kids, .bool sp0.shadow, .int .i64 sp0.start, .int .i64 sp0.stop] 79)) := (Below.refl _ w4).alloc (Nat.le_refl _) _
      have HL5 := hid ((HL4.out.later hb4).later n4)
      have HX5 := hid ((HX4.out.later hb4).later n4)
      have g4 : w3.heap.size < w4.heap.size := HS4.out.2.2.lt
      clear hb4 n4
      go_wp2_with fail
      refine (finish_kept _ l no 0 0 0 _ HL5.out hl1 [] sp0 9 HF3.out).mono ?_
      rintro e w5 ⟨a5, cap5, rfl, hb5, HL6⟩
      have HB5 : Hid (Below W.heap.size W (w5.alloc (.cells #[.int .u64 sp0.hi, .int .u64 sp0.lo, .int .u64 sp0.id, .int .u64 sp0.up, .string sp0.name, .int .i64 sp0.status, .int .i64 sp0.seq, .int .i64 sp0.kids, .bool sp0.shadow, .int .i64 sp0.start, .int .i64 sp0.stop] 79))) := by
        show Below _ _ _
        have h5 := HB4.out.trans (hb5.mono HB4.out.size)
        exact h5.alloc h5.size _
      have HX7 := hid (HX5.out.later hb5)
      have HC5 := hid (HB4.out.trans (hb5.mono HB4.out.size))
      have HA7 := hid (HA.out.later HC5.out)
      have HS5 : Hid (Blk w5 W.heap.size #[.int .u64 s.hi, .int .u64 s.lo, .int .u64 s.id, .int .u64 s.up, .string s.name, .int .i64 s.status, .int .i64 s.seq, .int .i64 s.kids, .bool s.shadow, .int .i64 s.start, .int .i64 s.stop] 79 ∧ Blk w5 w2.heap.size #[.int .u64 s.hi, .int .u64 s.lo, .int .u64 s.id, .int .u64 s.up, .string s.name, .int .i64 s.status, .int .i64 s.seq, .int .i64 s.kids, .bool s.shadow, .int .i64 s.start, .int .i64 s.stop] 79 ∧ Blk w5 w3.heap.size #[.int .u64 s.hi, .int .u64 s.lo, .int .u64 s.id, .int .u64 s.up, .string s.name, .int .i64 s.status, .int .i64 s.seq, .int .i64 s.kids, .bool s.shadow, .int .i64 s.start, .int .i64 s.stop] 79) := ⟨(HS4.out.1.alloc _).later hb5, (HS4.out.2.1.alloc _).later hb5, (HS4.out.2.2.alloc _).later hb5⟩
      have g5 : w4.heap.size < w5.heap.size := by have := hb5.size; simp at this; omega
      have g6 : w3.heap.size < w5.heap.size := HS5.out.2.2.lt
      have g7 : w2.heap.size < w5.heap.size := HS5.out.2.1.lt
      have g8 : W.heap.size < w5.heap.size := HS5.out.1.lt
      obtain ⟨c0, c1, c2, c3, c4, c5, c6, c7, c8, c9, c10, cf⟩ := blk11 HS5.out.1
      obtain ⟨d0, d1, d2, d3, d4, d5, d6, d7, d8, d9, d10, df⟩ := blk11 HS5.out.2.1
      obtain ⟨f0, f1, f2, f3, f4, f5, f6, f7, f8, f9, f10, ff⟩ := blk11 HS5.out.2.2
      have m1 : ¬ w5.heap.size = W.heap.size := by omega
      have m2 : ¬ W.heap.size = w5.heap.size := by omega
      have m3 : ¬ w2.heap.size = W.heap.size := by omega
      have m4 : ¬ w3.heap.size = W.heap.size := by omega
      clear hb5 HL6
      go_wp2_with fail
      refine (same_kept _ _ l l true _ (HX7.out.set.later ((Below.refl _ _).alloc (Nat.le_refl _) _)).kept (HA7.out.set.later ((Below.refl _ _).alloc (Nat.le_refl _) _)).kept (by omega) (by omega) (decide_eq_true rfl)).mono ?_
      rintro e w6 ⟨rfl, hb6⟩
      have HB6 : Hid (Below W.heap.size W w6) := by
        show Below _ _ _
        have h6 : Below W.heap.size W ((w5.setCell ⟨W.heap.size, 10, none⟩ (.int .i64 s.stop)).alloc (.cells #[.int .u64 sp0.hi, .int .u64 sp0.lo, .int .u64 sp0.id, .int .u64 sp0.up, .string sp0.name, .int .i64 sp0.status, .int .i64 sp0.seq, .int .i64 sp0.kids, .bool sp0.shadow, .int .i64 sp0.start, .int .i64 sp0.stop] 79)) := (Below.setCell HC5.out (p := ⟨W.heap.size, 10, none⟩) (Nat.le_refl _) _).alloc (by simpa using HC5.out.size) _
        exact h6.trans (hb6.mono h6.size)
      clear hb6
      go_wp2_with fail
      refine (known_any _).mono ?_
      rintro e w7 ⟨rfl, hb7⟩
      have HB7 := hid (HB6.out.trans (hb7.mono HB6.out.size))
      clear hb7
      go_wp2_with fail
      go_ret
      exact ⟨rfl, HB7.out⟩
    · have HMX : Hid (max s.stop s.start = s.start) := Int.max_eq_right (by omega)
      have HFin2 : Hid (finR L no s.status s.kids s.stop = (l, { s with stop := s.start }, 0)) := by
        show _ = _
        rw [HFin.out, HMX.out]
      have ee1 : ∀ w, (Op.equalIn 10000 79 (.agg #[.int .u64 s.hi, .int .u64 s.lo, .int .u64 s.id, .int .u64 s.up, .string s.name, .int .i64 s.status, .int .i64 s.seq, .int .i64 s.kids, .bool s.shadow, .int .i64 s.start, .int .i64 s.start]) (.agg #[.int .u64 s.hi, .int .u64 s.lo, .int .u64 s.id, .int .u64 s.up, .string s.name, .int .i64 s.status, .int .i64 s.seq, .int .i64 s.kids, .bool s.shadow, .int .i64 s.start, .int .i64 s.start])).run Try.prog w = .ok true w := fun w => by
        have := eqSp { s with stop := s.start } { s with stop := s.start } w; rw [decide_eq_true rfl] at this; exact this
      go_enter Try.func16, Try.ntmps16
      go_wp2_with fail
      refine (start_kept _ l no s _ (HV.out.later HW0.out) hl1 _ _ HS.out).mono ?_
      rintro e w1 ⟨a1, cap1, rfl, hb1, HL1⟩
      have HB1 := hid (HW0.out.trans (hb1.mono HW0.out.size))
      have HS1 : Hid (Blk w1 W.heap.size #[.int .u64 s.hi, .int .u64 s.lo, .int .u64 s.id, .int .u64 s.up, .string s.name, .int .i64 s.status, .int .i64 s.seq, .int .i64 s.kids, .bool s.shadow, .int .i64 s.start, .int .i64 s.stop] 79) := (Blk.new W #[.int .u64 s.hi, .int .u64 s.lo, .int .u64 s.id, .int .u64 s.up, .string s.name, .int .i64 s.status, .int .i64 s.seq, .int .i64 s.kids, .bool s.shadow, .int .i64 s.start, .int .i64 s.stop] 79).later hb1
      clear hb1
      go_wp2_with fail
      refine (find_kept _ L no _ HL1.out HLen.out s true HF1.out).mono ?_
      rintro e w2 ⟨rfl, hb2⟩
      have HB2 : Hid (Below W.heap.size W (w2.alloc (.cells #[.int .u64 s.hi, .int .u64 s.lo, .int .u64 s.id, .int .u64 s.up, .string s.name, .int .i64 s.status, .int .i64 s.seq, .int .i64 s.kids, .bool s.shadow, .int .i64 s.start, .int .i64 s.stop] 79))) := by
        show Below _ _ _
        have h2 := HB1.out.trans (hb2.mono HB1.out.size)
        exact h2.alloc h2.size _
      have HS2 : Hid (Blk (w2.alloc (.cells #[.int .u64 s.hi, .int .u64 s.lo, .int .u64 s.id, .int .u64 s.up, .string s.name, .int .i64 s.status, .int .i64 s.seq, .int .i64 s.kids, .bool s.shadow, .int .i64 s.start, .int .i64 s.stop] 79)) W.heap.size #[.int .u64 s.hi, .int .u64 s.lo, .int .u64 s.id, .int .u64 s.up, .string s.name, .int .i64 s.status, .int .i64 s.seq, .int .i64 s.kids, .bool s.shadow, .int .i64 s.start, .int .i64 s.stop] 79) := (HS1.out.later hb2).alloc _
      have n2 : Below w2.heap.size w2 (w2.alloc (.cells #[.int .u64 s.hi, .int .u64 s.lo, .int .u64 s.id, .int .u64 s.up, .string s.name, .int .i64 s.status, .int .i64 s.seq, .int .i64 s.kids, .bool s.shadow, .int .i64 s.start, .int .i64 s.stop] 79)) := (Below.refl _ w2).alloc (Nat.le_refl _) _
      have HL2 := hid ((HL1.out.later hb2).later n2)
      have g2 : W.heap.size < w2.heap.size := Nat.lt_of_lt_of_le HS1.out.lt hb2.size
      obtain ⟨z0, z1, z2, z3, z4, z5, z6, z7, z8, z9, z10, zf⟩ := blk11 (HS1.out.later hb2)
      clear hb2 n2
      go_wp2_with fail
      obtain ⟨P2, p1, p2⟩ := HL2.out
      refine (finish_val _ L no s.status s.kids s.stop _ p2 p1 HLen.out l _ 0 HFin2.out).mono ?_
      rintro e w3 ⟨a3, cap3, rfl, hb3, HL3⟩
      have HLX : Hid (KeptX W.heap.size w3 (.slice a3 l.length cap3) l) := ⟨_, fun b hb => ⟨hb.2, by have := hb.1; simp at this; omega⟩, HL3.out⟩
      have HL3 := hid HLX.out.kept
      clear p1 p2
      have HB3 : Hid (Below W.heap.size W (w3.alloc (.cells #[.int .u64 s.hi, .int .u64 s.lo, .int .u64 s.id, .int .u64 s.up, .string s.name, .int .i64 s.status, .int .i64 s.seq, .int .i64 s.kids, .bool s.shadow, .int .i64 s.start, .int .i64 s.start] 79))) := by
        show Below _ _ _
        have h3 := HB2.out.trans (hb3.mono HB2.out.size)
        exact h3.alloc h3.size _
      have HS3 : Hid (Blk w3 W.heap.size #[.int .u64 s.hi, .int .u64 s.lo, .int .u64 s.id, .int .u64 s.up, .string s.name, .int .i64 s.status, .int .i64 s.seq, .int .i64 s.kids, .bool s.shadow, .int .i64 s.start, .int .i64 s.stop] 79 ∧ Blk w3 w2.heap.size #[.int .u64 s.hi, .int .u64 s.lo, .int .u64 s.id, .int .u64 s.up, .string s.name, .int .i64 s.status, .int .i64 s.seq, .int .i64 s.kids, .bool s.shadow, .int .i64 s.start, .int .i64 s.stop] 79) := ⟨HS2.out.later hb3, (Blk.new w2 _ _).later hb3⟩
      have n3 : Below w3.heap.size w3 (w3.alloc (.cells #[.int .u64 s.hi, .int .u64 s.lo, .int .u64 s.id, .int .u64 s.up, .string s.name, .int .i64 s.status, .int .i64 s.seq, .int .i64 s.kids, .bool s.shadow, .int .i64 s.start, .int .i64 s.start] 79)) := (Below.refl _ w3).alloc (Nat.le_refl _) _
      have HL4 := hid (HL3.out.later n3)
      have HX4 := hid (HLX.out.later n3)
      have g3 : w2.heap.size < w3.heap.size := HS3.out.2.lt
      clear hb3 n3 z0 z1 z2 z3 z4 z5 z6 z7 z8 z9 z10 zf
      go_wp2_with fail
      refine (find_kept _ l no _ HL4.out hl1 sp0 false HF2.out).mono ?_
      rintro e w4 ⟨rfl, hb4⟩
      have HB4 : Hid (Below W.heap.size W (w4.alloc (.cells #[.int .u64 sp0.hi, .int .u64 sp0.lo, .int .u64 sp0.id, .int .u64 sp0.up, .string sp0.name, .int .i64 sp0.status, .int .i64 sp0.seq, .int .i64 sp0.kids, .bool sp0.shadow, .int .i64 sp0.start, .int .i64 sp0.stop] 79))) := by
        show Below _ _ _
        have h4 := HB3.out.trans (hb4.mono HB3.out.size)
        exact h4.alloc h4.size _
      have HS4 : Hid (Blk w4 W.heap.size #[.int .u64 s.hi, .int .u64 s.lo, .int .u64 s.id, .int .u64 s.up, .string s.name, .int .i64 s.status, .int .i64 s.seq, .int .i64 s.kids, .bool s.shadow, .int .i64 s.start, .int .i64 s.stop] 79 ∧ Blk w4 w2.heap.size #[.int .u64 s.hi, .int .u64 s.lo, .int .u64 s.id, .int .u64 s.up, .string s.name, .int .i64 s.status, .int .i64 s.seq, .int .i64 s.kids, .bool s.shadow, .int .i64 s.start, .int .i64 s.stop] 79 ∧ Blk w4 w3.heap.size #[.int .u64 s.hi, .int .u64 s.lo, .int .u64 s.id, .int .u64 s.up, .string s.name, .int .i64 s.status, .int .i64 s.seq, .int .i64 s.kids, .bool s.shadow, .int .i64 s.start, .int .i64 s.start] 79) := ⟨(HS3.out.1.alloc _).later hb4, (HS3.out.2.alloc _).later hb4, (Blk.new w3 _ _).later hb4⟩
      have n4 : Below w4.heap.size w4 (w4.alloc (.cells #[.int .u64 sp0.hi, .int .u64 sp0.lo, .int .u64 sp0.id, .int .u64 sp0.up, .string sp0.name, .int .i64 sp0.status, .int .i64 sp0.seq, .int .i64 sp0.kids, .bool sp0.shadow, .int .i64 sp0.start, .int .i64 sp0.stop] 79)) := (Below.refl _ w4).alloc (Nat.le_refl _) _
      have HL5 := hid ((HL4.out.later hb4).later n4)
      have HX5 := hid ((HX4.out.later hb4).later n4)
      have g4 : w3.heap.size < w4.heap.size := HS4.out.2.2.lt
      clear hb4 n4
      go_wp2_with fail
      refine (finish_kept _ l no 0 0 0 _ HL5.out hl1 [] sp0 9 HF3.out).mono ?_
      rintro e w5 ⟨a5, cap5, rfl, hb5, HL6⟩
      have HB5 : Hid (Below W.heap.size W (w5.alloc (.cells #[.int .u64 sp0.hi, .int .u64 sp0.lo, .int .u64 sp0.id, .int .u64 sp0.up, .string sp0.name, .int .i64 sp0.status, .int .i64 sp0.seq, .int .i64 sp0.kids, .bool sp0.shadow, .int .i64 sp0.start, .int .i64 sp0.stop] 79))) := by
        show Below _ _ _
        have h5 := HB4.out.trans (hb5.mono HB4.out.size)
        exact h5.alloc h5.size _
      have HX7 := hid (HX5.out.later hb5)
      have HC5 := hid (HB4.out.trans (hb5.mono HB4.out.size))
      have HA7 := hid (HA.out.later HC5.out)
      have HS5 : Hid (Blk w5 W.heap.size #[.int .u64 s.hi, .int .u64 s.lo, .int .u64 s.id, .int .u64 s.up, .string s.name, .int .i64 s.status, .int .i64 s.seq, .int .i64 s.kids, .bool s.shadow, .int .i64 s.start, .int .i64 s.stop] 79 ∧ Blk w5 w2.heap.size #[.int .u64 s.hi, .int .u64 s.lo, .int .u64 s.id, .int .u64 s.up, .string s.name, .int .i64 s.status, .int .i64 s.seq, .int .i64 s.kids, .bool s.shadow, .int .i64 s.start, .int .i64 s.stop] 79 ∧ Blk w5 w3.heap.size #[.int .u64 s.hi, .int .u64 s.lo, .int .u64 s.id, .int .u64 s.up, .string s.name, .int .i64 s.status, .int .i64 s.seq, .int .i64 s.kids, .bool s.shadow, .int .i64 s.start, .int .i64 s.start] 79) := ⟨(HS4.out.1.alloc _).later hb5, (HS4.out.2.1.alloc _).later hb5, (HS4.out.2.2.alloc _).later hb5⟩
      have g5 : w4.heap.size < w5.heap.size := by have := hb5.size; simp at this; omega
      have g6 : w3.heap.size < w5.heap.size := HS5.out.2.2.lt
      have g7 : w2.heap.size < w5.heap.size := HS5.out.2.1.lt
      have g8 : W.heap.size < w5.heap.size := HS5.out.1.lt
      obtain ⟨c0, c1, c2, c3, c4, c5, c6, c7, c8, c9, c10, cf⟩ := blk11 HS5.out.1
      obtain ⟨d0, d1, d2, d3, d4, d5, d6, d7, d8, d9, d10, df⟩ := blk11 HS5.out.2.1
      obtain ⟨f0, f1, f2, f3, f4, f5, f6, f7, f8, f9, f10, ff⟩ := blk11 HS5.out.2.2
      have m1 : ¬ w5.heap.size = W.heap.size := by omega
      have m2 : ¬ W.heap.size = w5.heap.size := by omega
      have m3 : ¬ w2.heap.size = W.heap.size := by omega
      have m4 : ¬ w3.heap.size = W.heap.size := by omega
      clear hb5 HL6
      go_wp2_with fail
      refine (same_kept _ _ l l true _ (HX7.out.set.later ((Below.refl _ _).alloc (Nat.le_refl _) _)).kept (HA7.out.set.later ((Below.refl _ _).alloc (Nat.le_refl _) _)).kept (by omega) (by omega) (decide_eq_true rfl)).mono ?_
      rintro e w6 ⟨rfl, hb6⟩
      have HB6 : Hid (Below W.heap.size W w6) := by
        show Below _ _ _
        have h6 : Below W.heap.size W ((w5.setCell ⟨W.heap.size, 10, none⟩ (.int .i64 s.start)).alloc (.cells #[.int .u64 sp0.hi, .int .u64 sp0.lo, .int .u64 sp0.id, .int .u64 sp0.up, .string sp0.name, .int .i64 sp0.status, .int .i64 sp0.seq, .int .i64 sp0.kids, .bool sp0.shadow, .int .i64 sp0.start, .int .i64 sp0.stop] 79)) := (Below.setCell HC5.out (p := ⟨W.heap.size, 10, none⟩) (Nat.le_refl _) _).alloc (by simpa using HC5.out.size) _
        exact h6.trans (hb6.mono h6.size)
      clear hb6
      go_wp2_with fail
      refine (known_any _).mono ?_
      rintro e w7 ⟨rfl, hb7⟩
      have HB7 := hid (HB6.out.trans (hb7.mono HB6.out.size))
      clear hb7
      go_wp2_with fail
      go_ret
      exact ⟨rfl, HB7.out⟩
  · have hne : (qs == 0) = false := by rw [beq_eq_false_iff_ne]; exact hq
    have hne2 : (qs != 0) = true := by unfold bne; rw [hne]; rfl
    obtain rfl := back_err l no s ls qs hs hq
    have HS := hid hs
    clear hs
    go_enter Try.func16, Try.ntmps16
    go_wp2_with fail
    refine (start_kept _ l no s _ (HV.out.later HW0.out) hl1 _ _ HS.out).mono ?_
    rintro e w1 ⟨a1, cap1, rfl, hb1, HL1⟩
    have HB1 := hid (HW0.out.trans (hb1.mono HW0.out.size))
    clear hb1 HL1
    go_wp2_with fail
    refine (known_any _).mono ?_
    rintro e w2 ⟨rfl, hb2⟩
    have HB2 := hid (HB1.out.trans (hb2.mono HB1.out.size))
    clear hb2
    go_wp2_with fail
    go_ret
    exact ⟨rfl, HB2.out⟩
end C24
end Go.Proofs.Ytefaegoajjcfjaa
