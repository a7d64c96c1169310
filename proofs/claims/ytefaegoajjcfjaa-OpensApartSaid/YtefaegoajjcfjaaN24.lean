/- Walks of layer 24 (opens): the law that two spans end in either order just the same; no condition. -/
import Derived.Test.YtefaegoajjcfjaaM24
namespace Go.Proofs.Ytefaegoajjcfjaa
open Go.RowKit Go.Peri
namespace C24

set_option maxRecDepth 100000 in
set_option maxHeartbeats 4000000 in
theorem apart_big (v : Value) (l : List Opn) (m n x y z : Int) (W : World) (h : RowsOf (· < W.heap.size) Opn.enc 12 W v l) (hl : l.length ≤ 4000000000000) (hb : 300 < l.length ∨ m = n) :
    Calls Try.prog 17 #[v, .agg #[.int .i64 m, .int .i64 n], .agg #[.int .i64 x, .int .i64 y, .int .i64 z]] W fun e w' => e = .returned (.bool true) ∧ Below W.heap.size W w' := by
  obtain ⟨a, cap, rfl, hlc, hcm, _⟩ := h
  have HW0 : Hid (Below W.heap.size W ((W.alloc (.cells #[.int .i64 m, .int .i64 n] 91)).alloc (.cells #[.int .i64 x, .int .i64 y, .int .i64 z] 25))) := ((Below.refl _ W).alloc (Nat.le_refl _) _).alloc (by simp) _
  by_cases h300 : 300 < l.length
  · have h300' : (300 : Int) < (l.length : Int) := by omega
    clear hb
    go_enter Try.func17, Try.ntmps17
    go_wp2_with fail
    refine (known_any _).mono ?_
    rintro e w1 ⟨rfl, hb1⟩
    have HB1 := hid (HW0.out.trans (hb1.mono HW0.out.size))
    clear hb1
    go_wp2_with fail
    go_ret
    exact ⟨rfl, HB1.out⟩
  · have h300' : ¬ (300 : Int) < (l.length : Int) := by omega
    obtain rfl : m = n := hb.resolve_left h300
    go_enter Try.func17, Try.ntmps17
    go_wp2_with fail
    refine (known_any _).mono ?_
    rintro e w1 ⟨rfl, hb1⟩
    have HB1 := hid (HW0.out.trans (hb1.mono HW0.out.size))
    clear hb1
    go_wp2_with fail
    go_ret
    exact ⟨rfl, HB1.out⟩

set_option maxRecDepth 100000 in
set_option maxHeartbeats 4000000 in
theorem apart_1 (v : Value) (l : List Opn) (m n x y z : Int) (W : World) (h : RowsOf (· < W.heap.size) Opn.enc 12 W v l) (hl1 : l.length ≤ 300) (hmn : m ≠ n) (la lb : List Opn) (sa sb : Sp) (qa qb : Int) (ha : finR l m x y z = (la, sa, qa)) (hb : finR l n x y z = (lb, sb, qb)) (hq : qa ≠ 0) :
    Calls Try.prog 17 #[v, .agg #[.int .i64 m, .int .i64 n], .agg #[.int .i64 x, .int .i64 y, .int .i64 z]] W fun e w' => e = .returned (.bool true) ∧ Below W.heap.size W w' := by
  have HV := hid (arg_kept h)
  obtain ⟨a, cap, rfl, hlc, hcm, _⟩ := h
  have HW0 : Hid (Below W.heap.size W ((W.alloc (.cells #[.int .i64 m, .int .i64 n] 91)).alloc (.cells #[.int .i64 x, .int .i64 y, .int .i64 z] 25))) := ((Below.refl _ W).alloc (Nat.le_refl _) _).alloc (by simp) _
  have h300' : ¬ (300 : Int) < (l.length : Int) := by omega
  have hmn' : (m == n) = false := by rw [beq_eq_false_iff_ne]; exact hmn
  have hl2 : l.length ≤ 100000 := by omega
  have qa0 : (qa == 0) = false := by rw [beq_eq_false_iff_ne]; exact hq
  have qa1 : (qa != 0) = true := by unfold bne; rw [qa0]; rfl
  have HA := hid ha
  have HB := hid hb
  clear ha hb
  go_enter Try.func17, Try.ntmps17
  go_wp2_with fail
  refine (finish_kept _ l m x y z _ (HV.out.later HW0.out) hl2 _ _ _ HA.out).mono ?_
  rintro e w1 ⟨a1, cap1, rfl, hb1, HL1⟩
  have HB1 : Hid (Below W.heap.size W (w1.alloc (.cells #[.int .u64 sa.hi, .int .u64 sa.lo, .int .u64 sa.id, .int .u64 sa.up, .string sa.name, .int .i64 sa.status, .int .i64 sa.seq, .int .i64 sa.kids, .bool sa.shadow, .int .i64 sa.start, .int .i64 sa.stop] 79))) := by
    show Below _ _ _
    have h1 := HW0.out.trans (hb1.mono HW0.out.size)
    exact h1.alloc h1.size _
  have HM1 : Hid (Blk w1 W.heap.size #[.int .i64 m, .int .i64 n] 91 ∧ Blk w1 (W.heap.size + 1) #[.int .i64 x, .int .i64 y, .int .i64 z] 25) := ⟨((Blk.new W _ 91).alloc _).later hb1, (Blk.new' (W.alloc (.cells #[.int .i64 m, .int .i64 n] 91)) _ 25 (by simp)).later hb1⟩
  have HK1 := hid (HL1.out.later ((Below.refl _ w1).alloc (Nat.le_refl _) (.cells #[.int .u64 sa.hi, .int .u64 sa.lo, .int .u64 sa.id, .int .u64 sa.up, .string sa.name, .int .i64 sa.status, .int .i64 sa.seq, .int .i64 sa.kids, .bool sa.shadow, .int .i64 sa.start, .int .i64 sa.stop] 79)))
  have u0 := HM1.out.1.cell 0
  have u1 := HM1.out.1.cell 1
  have x0 := HM1.out.2.cell 0
  have x1 := HM1.out.2.cell 1
  have x2 := HM1.out.2.cell 2
  simp only [List.getElem?_toArray, List.getElem?_cons_zero, List.getElem?_cons_succ] at u0 u1 x0 x1 x2
  have g0 : W.heap.size < w1.heap.size := HM1.out.1.lt
  have g1 : W.heap.size + 1 < w1.heap.size := HM1.out.2.lt
  clear hb1 HL1
  go_wp2_with fail
  refine (finish_kept _ l n x y z _ (HV.out.later HB1.out) hl2 _ _ _ HB.out).mono ?_
  rintro e w2 ⟨a2, cap2, rfl, hb2, HL2⟩
  have HB2 : Hid (Below W.heap.size W (w2.alloc (.cells #[.int .u64 sb.hi, .int .u64 sb.lo, .int .u64 sb.id, .int .u64 sb.up, .string sb.name, .int .i64 sb.status, .int .i64 sb.seq, .int .i64 sb.kids, .bool sb.shadow, .int .i64 sb.start, .int .i64 sb.stop] 79))) := by
    show Below _ _ _
    have h1 := HB1.out.trans (hb2.mono HB1.out.size)
    exact h1.alloc h1.size _
  have HM2 : Hid (Blk w2 W.heap.size #[.int .i64 m, .int .i64 n] 91 ∧ Blk w2 (W.heap.size + 1) #[.int .i64 x, .int .i64 y, .int .i64 z] 25 ∧ Blk w2 w1.heap.size #[.int .u64 sa.hi, .int .u64 sa.lo, .int .u64 sa.id, .int .u64 sa.up, .string sa.name, .int .i64 sa.status, .int .i64 sa.seq, .int .i64 sa.kids, .bool sa.shadow, .int .i64 sa.start, .int .i64 sa.stop] 79) := ⟨(HM1.out.1.alloc _).later hb2, (HM1.out.2.alloc _).later hb2, (Blk.new w1 _ _).later hb2⟩
  have n2 : Below w2.heap.size w2 (w2.alloc (.cells #[.int .u64 sb.hi, .int .u64 sb.lo, .int .u64 sb.id, .int .u64 sb.up, .string sb.name, .int .i64 sb.status, .int .i64 sb.seq, .int .i64 sb.kids, .bool sb.shadow, .int .i64 sb.start, .int .i64 sb.stop] 79)) := (Below.refl _ w2).alloc (Nat.le_refl _) _
  have HK2 := hid (And.intro ((HK1.out.later hb2).later n2) (HL2.out.later n2))
  have u0 := HM2.out.1.cell 0
  have u1 := HM2.out.1.cell 1
  have x0 := HM2.out.2.1.cell 0
  have x1 := HM2.out.2.1.cell 1
  have x2 := HM2.out.2.1.cell 2
  simp only [List.getElem?_toArray, List.getElem?_cons_zero, List.getElem?_cons_succ] at u0 u1 x0 x1 x2
  have g2 : W.heap.size < w2.heap.size := HM2.out.1.lt
  have g3 : W.heap.size + 1 < w2.heap.size := HM2.out.2.1.lt
  have g4 : w1.heap.size < w2.heap.size := HM2.out.2.2.lt
  clear hb2 HL2 n2
  go_wp2_with fail
  refine (known_any _).mono ?_
  rintro e w3 ⟨rfl, hb3⟩
  have HB3 := hid (HB2.out.trans (hb3.mono HB2.out.size))
  clear hb3
  go_wp2_with fail
  go_ret
  exact ⟨rfl, HB3.out⟩

set_option maxRecDepth 100000 in
set_option maxHeartbeats 4000000 in
theorem apart_01 (v : Value) (l : List Opn) (m n x y z : Int) (W : World) (h : RowsOf (· < W.heap.size) Opn.enc 12 W v l) (hl1 : l.length ≤ 300) (hmn : m ≠ n) (la lb : List Opn) (sa sb : Sp) (qa qb : Int) (ha : finR l m x y z = (la, sa, qa)) (hb : finR l n x y z = (lb, sb, qb)) (hq : qa = 0 ∧ qb ≠ 0) :
    Calls Try.prog 17 #[v, .agg #[.int .i64 m, .int .i64 n], .agg #[.int .i64 x, .int .i64 y, .int .i64 z]] W fun e w' => e = .returned (.bool true) ∧ Below W.heap.size W w' := by
  have HV := hid (arg_kept h)
  obtain ⟨a, cap, rfl, hlc, hcm, _⟩ := h
  have HW0 : Hid (Below W.heap.size W ((W.alloc (.cells #[.int .i64 m, .int .i64 n] 91)).alloc (.cells #[.int .i64 x, .int .i64 y, .int .i64 z] 25))) := ((Below.refl _ W).alloc (Nat.le_refl _) _).alloc (by simp) _
  have h300' : ¬ (300 : Int) < (l.length : Int) := by omega
  have hmn' : (m == n) = false := by rw [beq_eq_false_iff_ne]; exact hmn
  have hl2 : l.length ≤ 100000 := by omega
  obtain ⟨rfl, hqb⟩ := hq
  have qb0 : (qb == 0) = false := by rw [beq_eq_false_iff_ne]; exact hqb
  have qb1 : (qb != 0) = true := by unfold bne; rw [qb0]; rfl
  have HA := hid ha
  have HB := hid hb
  clear ha hb
  go_enter Try.func17, Try.ntmps17
  go_wp2_with fail
  refine (finish_kept _ l m x y z _ (HV.out.later HW0.out) hl2 _ _ _ HA.out).mono ?_
  rintro e w1 ⟨a1, cap1, rfl, hb1, HL1⟩
  have HB1 : Hid (Below W.heap.size W (w1.alloc (.cells #[.int .u64 sa.hi, .int .u64 sa.lo, .int .u64 sa.id, .int .u64 sa.up, .string sa.name, .int .i64 sa.status, .int .i64 sa.seq, .int .i64 sa.kids, .bool sa.shadow, .int .i64 sa.start, .int .i64 sa.stop] 79))) := by
    show Below _ _ _
    have h1 := HW0.out.trans (hb1.mono HW0.out.size)
    exact h1.alloc h1.size _
  have HM1 : Hid (Blk w1 W.heap.size #[.int .i64 m, .int .i64 n] 91 ∧ Blk w1 (W.heap.size + 1) #[.int .i64 x, .int .i64 y, .int .i64 z] 25) := ⟨((Blk.new W _ 91).alloc _).later hb1, (Blk.new' (W.alloc (.cells #[.int .i64 m, .int .i64 n] 91)) _ 25 (by simp)).later hb1⟩
  have HK1 := hid (HL1.out.later ((Below.refl _ w1).alloc (Nat.le_refl _) (.cells #[.int .u64 sa.hi, .int .u64 sa.lo, .int .u64 sa.id, .int .u64 sa.up, .string sa.name, .int .i64 sa.status, .int .i64 sa.seq, .int .i64 sa.kids, .bool sa.shadow, .int .i64 sa.start, .int .i64 sa.stop] 79)))
  have u0 := HM1.out.1.cell 0
  have u1 := HM1.out.1.cell 1
  have x0 := HM1.out.2.cell 0
  have x1 := HM1.out.2.cell 1
  have x2 := HM1.out.2.cell 2
  simp only [List.getElem?_toArray, List.getElem?_cons_zero, List.getElem?_cons_succ] at u0 u1 x0 x1 x2
  have g0 : W.heap.size < w1.heap.size := HM1.out.1.lt
  have g1 : W.heap.size + 1 < w1.heap.size := HM1.out.2.lt
  clear hb1 HL1
  go_wp2_with fail
  refine (finish_kept _ l n x y z _ (HV.out.later HB1.out) hl2 _ _ _ HB.out).mono ?_
  rintro e w2 ⟨a2, cap2, rfl, hb2, HL2⟩
  have HB2 : Hid (Below W.heap.size W (w2.alloc (.cells #[.int .u64 sb.hi, .int .u64 sb.lo, .int .u64 sb.id, .int .u64 sb.up, .string sb.name, .int .i64 sb.status, .int .i64 sb.seq, .int .i64 sb.kids, .bool sb.shadow, .int .i64 sb.start, .int .i64 sb.stop] 79))) := by
    show Below _ _ _
    have h1 := HB1.out.trans (hb2.mono HB1.out.size)
    exact h1.alloc h1.size _
  have HM2 : Hid (Blk w2 W.heap.size #[.int .i64 m, .int .i64 n] 91 ∧ Blk w2 (W.heap.size + 1) #[.int .i64 x, .int .i64 y, .int .i64 z] 25 ∧ Blk w2 w1.heap.size #[.int .u64 sa.hi, .int .u64 sa.lo, .int .u64 sa.id, .int .u64 sa.up, .string sa.name, .int .i64 sa.status, .int .i64 sa.seq, .int .i64 sa.kids, .bool sa.shadow, .int .i64 sa.start, .int .i64 sa.stop] 79) := ⟨(HM1.out.1.alloc _).later hb2, (HM1.out.2.alloc _).later hb2, (Blk.new w1 _ _).later hb2⟩
  have n2 : Below w2.heap.size w2 (w2.alloc (.cells #[.int .u64 sb.hi, .int .u64 sb.lo, .int .u64 sb.id, .int .u64 sb.up, .string sb.name, .int .i64 sb.status, .int .i64 sb.seq, .int .i64 sb.kids, .bool sb.shadow, .int .i64 sb.start, .int .i64 sb.stop] 79)) := (Below.refl _ w2).alloc (Nat.le_refl _) _
  have HK2 := hid (And.intro ((HK1.out.later hb2).later n2) (HL2.out.later n2))
  have u0 := HM2.out.1.cell 0
  have u1 := HM2.out.1.cell 1
  have x0 := HM2.out.2.1.cell 0
  have x1 := HM2.out.2.1.cell 1
  have x2 := HM2.out.2.1.cell 2
  simp only [List.getElem?_toArray, List.getElem?_cons_zero, List.getElem?_cons_succ] at u0 u1 x0 x1 x2
  have g2 : W.heap.size < w2.heap.size := HM2.out.1.lt
  have g3 : W.heap.size + 1 < w2.heap.size := HM2.out.2.1.lt
  have g4 : w1.heap.size < w2.heap.size := HM2.out.2.2.lt
  clear hb2 HL2 n2
  go_wp2_with fail
  refine (known_any _).mono ?_
  rintro e w3 ⟨rfl, hb3⟩
  have HB3 := hid (HB2.out.trans (hb3.mono HB2.out.size))
  clear hb3
  go_wp2_with fail
  go_ret
  exact ⟨rfl, HB3.out⟩

set_option maxRecDepth 100000 in
set_option maxHeartbeats 4000000 in
theorem apart_00 (v : Value) (l : List Opn) (m n x y z : Int) (W : World) (h : RowsOf (· < W.heap.size) Opn.enc 12 W v l) (hl1 : l.length ≤ 300) (hmn : m ≠ n) (la lb : List Opn) (sa sb : Sp) (qa qb : Int) (ha : finR l m x y z = (la, sa, qa)) (hb : finR l n x y z = (lb, sb, qb)) (hq : qa = 0 ∧ qb = 0) :
    Calls Try.prog 17 #[v, .agg #[.int .i64 m, .int .i64 n], .agg #[.int .i64 x, .int .i64 y, .int .i64 z]] W fun e w' => e = .returned (.bool true) ∧ Below W.heap.size W w' := by
  have HV := hid (arg_kept h)
  obtain ⟨a, cap, rfl, hlc, hcm, _⟩ := h
  have HW0 : Hid (Below W.heap.size W ((W.alloc (.cells #[.int .i64 m, .int .i64 n] 91)).alloc (.cells #[.int .i64 x, .int .i64 y, .int .i64 z] 25))) := ((Below.refl _ W).alloc (Nat.le_refl _) _).alloc (by simp) _
  have h300' : ¬ (300 : Int) < (l.length : Int) := by omega
  have hmn' : (m == n) = false := by rw [beq_eq_false_iff_ne]; exact hmn
  have hl2 : l.length ≤ 100000 := by omega
  obtain ⟨rfl, rfl⟩ := hq
  obtain ⟨c, hc1, hc2, hc3⟩ := apart l m n x y z hmn la lb sa sb ha hb
  have hla : la.length ≤ 100000 := by have := fin_len l m x y z; rw [ha] at this; simp at this; omega
  have hlb : lb.length ≤ 100000 := by have := fin_len l n x y z; rw [hb] at this; simp at this; omega
  have hcl : ((c.length : Int) + 2 == (l.length : Int)) = true := by rw [beq_iff_eq]; omega
  have hcl2 : (c.length : Int) + 2 = (l.length : Int) := by omega
  have HC1 := hid hc1
  have HC2 := hid hc2
  have ee1 : ∀ w, (Op.equalIn 10000 79 (.agg #[.int .u64 sa.hi, .int .u64 sa.lo, .int .u64 sa.id, .int .u64 sa.up, .string sa.name, .int .i64 sa.status, .int .i64 sa.seq, .int .i64 sa.kids, .bool sa.shadow, .int .i64 sa.start, .int .i64 sa.stop]) (.agg #[.int .u64 sa.hi, .int .u64 sa.lo, .int .u64 sa.id, .int .u64 sa.up, .string sa.name, .int .i64 sa.status, .int .i64 sa.seq, .int .i64 sa.kids, .bool sa.shadow, .int .i64 sa.start, .int .i64 sa.stop])).run Try.prog w = .ok true w := fun w => by
    have := eqSp sa sa w; rw [decide_eq_true rfl] at this; exact this
  have ee2 : ∀ w, (Op.equalIn 10000 79 (.agg #[.int .u64 sb.hi, .int .u64 sb.lo, .int .u64 sb.id, .int .u64 sb.up, .string sb.name, .int .i64 sb.status, .int .i64 sb.seq, .int .i64 sb.kids, .bool sb.shadow, .int .i64 sb.start, .int .i64 sb.stop]) (.agg #[.int .u64 sb.hi, .int .u64 sb.lo, .int .u64 sb.id, .int .u64 sb.up, .string sb.name, .int .i64 sb.status, .int .i64 sb.seq, .int .i64 sb.kids, .bool sb.shadow, .int .i64 sb.start, .int .i64 sb.stop])).run Try.prog w = .ok true w := fun w => by
    have := eqSp sb sb w; rw [decide_eq_true rfl] at this; exact this
  clear hc1 hc2
  have HA := hid ha
  have HB := hid hb
  clear ha hb
  go_enter Try.func17, Try.ntmps17
  go_wp2_with fail
  refine (finish_kept _ l m x y z _ (HV.out.later HW0.out) hl2 _ _ _ HA.out).mono ?_
  rintro e w1 ⟨a1, cap1, rfl, hb1, HL1⟩
  have HB1 : Hid (Below W.heap.size W (w1.alloc (.cells #[.int .u64 sa.hi, .int .u64 sa.lo, .int .u64 sa.id, .int .u64 sa.up, .string sa.name, .int .i64 sa.status, .int .i64 sa.seq, .int .i64 sa.kids, .bool sa.shadow, .int .i64 sa.start, .int .i64 sa.stop] 79))) := by
    show Below _ _ _
    have h1 := HW0.out.trans (hb1.mono HW0.out.size)
    exact h1.alloc h1.size _
  have HM1 : Hid (Blk w1 W.heap.size #[.int .i64 m, .int .i64 n] 91 ∧ Blk w1 (W.heap.size + 1) #[.int .i64 x, .int .i64 y, .int .i64 z] 25) := ⟨((Blk.new W _ 91).alloc _).later hb1, (Blk.new' (W.alloc (.cells #[.int .i64 m, .int .i64 n] 91)) _ 25 (by simp)).later hb1⟩
  have HK1 := hid (HL1.out.later ((Below.refl _ w1).alloc (Nat.le_refl _) (.cells #[.int .u64 sa.hi, .int .u64 sa.lo, .int .u64 sa.id, .int .u64 sa.up, .string sa.name, .int .i64 sa.status, .int .i64 sa.seq, .int .i64 sa.kids, .bool sa.shadow, .int .i64 sa.start, .int .i64 sa.stop] 79)))
  have u0 := HM1.out.1.cell 0
  have u1 := HM1.out.1.cell 1
  have x0 := HM1.out.2.cell 0
  have x1 := HM1.out.2.cell 1
  have x2 := HM1.out.2.cell 2
  simp only [List.getElem?_toArray, List.getElem?_cons_zero, List.getElem?_cons_succ] at u0 u1 x0 x1 x2
  have g0 : W.heap.size < w1.heap.size := HM1.out.1.lt
  have g1 : W.heap.size + 1 < w1.heap.size := HM1.out.2.lt
  clear hb1 HL1
  go_wp2_with fail
  refine (finish_kept _ l n x y z _ (HV.out.later HB1.out) hl2 _ _ _ HB.out).mono ?_
  rintro e w2 ⟨a2, cap2, rfl, hb2, HL2⟩
  have HB2 : Hid (Below W.heap.size W (w2.alloc (.cells #[.int .u64 sb.hi, .int .u64 sb.lo, .int .u64 sb.id, .int .u64 sb.up, .string sb.name, .int .i64 sb.status, .int .i64 sb.seq, .int .i64 sb.kids, .bool sb.shadow, .int .i64 sb.start, .int .i64 sb.stop] 79))) := by
    show Below _ _ _
    have h1 := HB1.out.trans (hb2.mono HB1.out.size)
    exact h1.alloc h1.size _
  have HM2 : Hid (Blk w2 W.heap.size #[.int .i64 m, .int .i64 n] 91 ∧ Blk w2 (W.heap.size + 1) #[.int .i64 x, .int .i64 y, .int .i64 z] 25 ∧ Blk w2 w1.heap.size #[.int .u64 sa.hi, .int .u64 sa.lo, .int .u64 sa.id, .int .u64 sa.up, .string sa.name, .int .i64 sa.status, .int .i64 sa.seq, .int .i64 sa.kids, .bool sa.shadow, .int .i64 sa.start, .int .i64 sa.stop] 79) := ⟨(HM1.out.1.alloc _).later hb2, (HM1.out.2.alloc _).later hb2, (Blk.new w1 _ _).later hb2⟩
  have n2 : Below w2.heap.size w2 (w2.alloc (.cells #[.int .u64 sb.hi, .int .u64 sb.lo, .int .u64 sb.id, .int .u64 sb.up, .string sb.name, .int .i64 sb.status, .int .i64 sb.seq, .int .i64 sb.kids, .bool sb.shadow, .int .i64 sb.start, .int .i64 sb.stop] 79)) := (Below.refl _ w2).alloc (Nat.le_refl _) _
  have HK2 := hid (And.intro ((HK1.out.later hb2).later n2) (HL2.out.later n2))
  have u0 := HM2.out.1.cell 0
  have u1 := HM2.out.1.cell 1
  have x0 := HM2.out.2.1.cell 0
  have x1 := HM2.out.2.1.cell 1
  have x2 := HM2.out.2.1.cell 2
  simp only [List.getElem?_toArray, List.getElem?_cons_zero, List.getElem?_cons_succ] at u0 u1 x0 x1 x2
  have g2 : W.heap.size < w2.heap.size := HM2.out.1.lt
  have g3 : W.heap.size + 1 < w2.heap.size := HM2.out.2.1.lt
  have g4 : w1.heap.size < w2.heap.size := HM2.out.2.2.lt
  clear hb2 HL2 n2
  go_wp2_with fail
  refine (finish_kept _ la n x y z _ HK2.out.1 hla _ _ _ HC1.out).mono ?_
  rintro e w3 ⟨a3, cap3, rfl, hb3, HL3⟩
  have HB3 : Hid (Below W.heap.size W (w3.alloc (.cells #[.int .u64 sb.hi, .int .u64 sb.lo, .int .u64 sb.id, .int .u64 sb.up, .string sb.name, .int .i64 sb.status, .int .i64 sb.seq, .int .i64 sb.kids, .bool sb.shadow, .int .i64 sb.start, .int .i64 sb.stop] 79))) := by
    show Below _ _ _
    have h1 := HB2.out.trans (hb3.mono HB2.out.size)
    exact h1.alloc h1.size _
  have HM3 : Hid (Blk w3 W.heap.size #[.int .i64 m, .int .i64 n] 91 ∧ Blk w3 (W.heap.size + 1) #[.int .i64 x, .int .i64 y, .int .i64 z] 25 ∧ Blk w3 w1.heap.size #[.int .u64 sa.hi, .int .u64 sa.lo, .int .u64 sa.id, .int .u64 sa.up, .string sa.name, .int .i64 sa.status, .int .i64 sa.seq, .int .i64 sa.kids, .bool sa.shadow, .int .i64 sa.start, .int .i64 sa.stop] 79 ∧ Blk w3 w2.heap.size #[.int .u64 sb.hi, .int .u64 sb.lo, .int .u64 sb.id, .int .u64 sb.up, .string sb.name, .int .i64 sb.status, .int .i64 sb.seq, .int .i64 sb.kids, .bool sb.shadow, .int .i64 sb.start, .int .i64 sb.stop] 79) := ⟨(HM2.out.1.alloc _).later hb3, (HM2.out.2.1.alloc _).later hb3, (HM2.out.2.2.alloc _).later hb3, (Blk.new w2 _ _).later hb3⟩
  have n3 : Below w3.heap.size w3 (w3.alloc (.cells #[.int .u64 sb.hi, .int .u64 sb.lo, .int .u64 sb.id, .int .u64 sb.up, .string sb.name, .int .i64 sb.status, .int .i64 sb.seq, .int .i64 sb.kids, .bool sb.shadow, .int .i64 sb.start, .int .i64 sb.stop] 79)) := (Below.refl _ w3).alloc (Nat.le_refl _) _
  have HK3 := hid (And.intro ((HK2.out.2.later hb3).later n3) (HL3.out.later n3))
  have u0 := HM3.out.1.cell 0
  have u1 := HM3.out.1.cell 1
  have x0 := HM3.out.2.1.cell 0
  have x1 := HM3.out.2.1.cell 1
  have x2 := HM3.out.2.1.cell 2
  simp only [List.getElem?_toArray, List.getElem?_cons_zero, List.getElem?_cons_succ] at u0 u1 x0 x1 x2
  have g2 : W.heap.size < w3.heap.size := HM3.out.1.lt
  have g3 : W.heap.size + 1 < w3.heap.size := HM3.out.2.1.lt
  have g5 : w1.heap.size < w3.heap.size := HM3.out.2.2.1.lt
  have g6 : w2.heap.size < w3.heap.size := HM3.out.2.2.2.lt
  clear hb3 HL3 n3
  go_wp2_with fail
  refine (finish_kept _ lb m x y z _ HK3.out.1 hlb _ _ _ HC2.out).mono ?_
  rintro e w4 ⟨a4, cap4, rfl, hb4, HL4⟩
  have HB4 : Hid (Below W.heap.size W (w4.alloc (.cells #[.int .u64 sa.hi, .int .u64 sa.lo, .int .u64 sa.id, .int .u64 sa.up, .string sa.name, .int .i64 sa.status, .int .i64 sa.seq, .int .i64 sa.kids, .bool sa.shadow, .int .i64 sa.start, .int .i64 sa.stop] 79))) := by
    show Below _ _ _
    have h1 := HB3.out.trans (hb4.mono HB3.out.size)
    exact h1.alloc h1.size _
  have n4 : Below w4.heap.size w4 (w4.alloc (.cells #[.int .u64 sa.hi, .int .u64 sa.lo, .int .u64 sa.id, .int .u64 sa.up, .string sa.name, .int .i64 sa.status, .int .i64 sa.seq, .int .i64 sa.kids, .bool sa.shadow, .int .i64 sa.start, .int .i64 sa.stop] 79)) := (Below.refl _ w4).alloc (Nat.le_refl _) _
  have HK4 := hid (And.intro ((HK3.out.2.later hb4).later n4) (HL4.out.later n4))
  have HM4 : Hid (Blk w4 w1.heap.size #[.int .u64 sa.hi, .int .u64 sa.lo, .int .u64 sa.id, .int .u64 sa.up, .string sa.name, .int .i64 sa.status, .int .i64 sa.seq, .int .i64 sa.kids, .bool sa.shadow, .int .i64 sa.start, .int .i64 sa.stop] 79 ∧ Blk w4 w2.heap.size #[.int .u64 sb.hi, .int .u64 sb.lo, .int .u64 sb.id, .int .u64 sb.up, .string sb.name, .int .i64 sb.status, .int .i64 sb.seq, .int .i64 sb.kids, .bool sb.shadow, .int .i64 sb.start, .int .i64 sb.stop] 79 ∧ Blk w4 w3.heap.size #[.int .u64 sb.hi, .int .u64 sb.lo, .int .u64 sb.id, .int .u64 sb.up, .string sb.name, .int .i64 sb.status, .int .i64 sb.seq, .int .i64 sb.kids, .bool sb.shadow, .int .i64 sb.start, .int .i64 sb.stop] 79) := ⟨(HM3.out.2.2.1.alloc _).later hb4, (HM3.out.2.2.2.alloc _).later hb4, (Blk.new w3 _ _).later hb4⟩
  obtain ⟨c0, c1, c2, c3, c4, c5, c6, c7, c8, c9, c10, cf⟩ := blk11 HM4.out.1
  obtain ⟨d0, d1, d2, d3, d4, d5, d6, d7, d8, d9, d10, df⟩ := blk11 HM4.out.2.1
  obtain ⟨f0, f1, f2, f3, f4, f5, f6, f7, f8, f9, f10, ff⟩ := blk11 HM4.out.2.2
  have k1 : w1.heap.size < w4.heap.size := HM4.out.1.lt
  have k2 : w2.heap.size < w4.heap.size := HM4.out.2.1.lt
  have k3 : w3.heap.size < w4.heap.size := HM4.out.2.2.lt
  clear hb4 HL4 n4 u0 u1 x0 x1 x2
  go_wp2_with fail
  refine (same_kept _ _ c c true _ HK4.out.1 HK4.out.2 (by omega) (by omega) (decide_eq_true rfl)).mono ?_
  rintro e w5 ⟨rfl, hb5⟩
  have HB5 := hid (HB4.out.trans (hb5.mono HB4.out.size))
  clear hb5
  go_wp2_with fail
  refine (known_any _).mono ?_
  rintro e w6 ⟨rfl, hb6⟩
  have HB6 := hid (HB5.out.trans (hb6.mono HB5.out.size))
  clear hb6
  go_wp2_with fail
  go_ret
  exact ⟨rfl, HB6.out⟩

theorem apart_walk (v : Value) (l : List Opn) (m n x y z : Int) (W : World) (h : RowsOf (· < W.heap.size) Opn.enc 12 W v l) (hl : l.length ≤ 4000000000000) :
    Calls Try.prog 17 #[v, .agg #[.int .i64 m, .int .i64 n], .agg #[.int .i64 x, .int .i64 y, .int .i64 z]] W fun e w' => e = .returned (.bool true) ∧ Below W.heap.size W w' := by
  by_cases hbig : 300 < l.length ∨ m = n
  · exact apart_big v l m n x y z W h hl hbig
  · have h1 : l.length ≤ 300 := by omega
    have h2 : m ≠ n := fun e => hbig (.inr e)
    obtain ⟨la, sa, qa, ha⟩ : ∃ a b c, finR l m x y z = (a, b, c) := ⟨_, _, _, rfl⟩
    obtain ⟨lb, sb, qb, hb⟩ : ∃ a b c, finR l n x y z = (a, b, c) := ⟨_, _, _, rfl⟩
    by_cases hqa : qa = 0
    · by_cases hqb : qb = 0
      · exact apart_00 v l m n x y z W h h1 h2 la lb sa sb qa qb ha hb ⟨hqa, hqb⟩
      · exact apart_01 v l m n x y z W h h1 h2 la lb sa sb qa qb ha hb ⟨hqa, hqb⟩
    · exact apart_1 v l m n x y z W h h1 h2 la lb sa sb qa qb ha hb hqa
end C24
end Go.Proofs.Ytefaegoajjcfjaa
