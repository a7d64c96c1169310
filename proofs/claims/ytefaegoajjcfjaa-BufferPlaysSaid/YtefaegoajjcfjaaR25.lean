/- Walks of layer 25 (buffer): the reference's New, Take and Put; no condition. -/
import Derived.Test.YtefaegoajjcfjaaM25
import Derived.Lib.MinMax
namespace Go.Peri
open Go.RowKit
theorem RowsOf.dropAt {α : Type} {p : Nat → Prop} {enc : α → List Value} {k : Nat} {w : World} {ad : Addr} {n cap : Nat} {l : List α} (h : RowsOf p enc k w (.slice (some ad) n cap) l) (m : Nat) (hm : m ≤ n) : RowsOf p enc k w (.slice (some (ad.add (m * k))) (n - m) (cap - m)) (l.drop m) := by
  obtain ⟨a', cap', e, h2, h3, h4, h5⟩ := h
  cases e
  by_cases hl : l.drop m = []
  · rw [hl]
    exact ⟨_, _, by have : l.length ≤ m := List.drop_eq_nil_iff.1 hl; rw [show l.length - m = 0 by omega]; rfl, by simp, by omega, by simp, .inl rfl⟩
  · obtain ⟨b, off, g1, g2, g3⟩ := h5.resolve_left (by rintro rfl; simp at hl)
    cases g1
    have := RowsOf.drop (k := k) ⟨_, _, rfl, h2, h3, h4, .inr ⟨b, off, rfl, g2, g3⟩⟩ m hm
    rw [Addr.add_lit]
    exact this
theorem RowsOf.dropCap {α : Type} {p : Nat → Prop} {enc : α → List Value} {k : Nat} {w : World} {ad : Addr} {n cap : Nat} {l : List α} (h : RowsOf p enc k w (.slice (some ad) n cap) l) (m : Nat) (hc : cap = m) : RowsOf p enc k w (.slice (some ad) (n - m) 0) (l.drop m) := by
  obtain ⟨a', cap', e, h2, h3, h4, h5⟩ := h
  cases e
  have hl : l.drop m = [] := List.drop_eq_nil_of_le (by omega)
  rw [hl]
  exact ⟨_, _, by rw [show l.length - m = 0 by omega]; rfl, by simp, by simp, by simp, .inl rfl⟩
end Go.Peri
namespace Go.Proofs.Ytefaegoajjcfjaa
open Go.RowKit Go.Peri
namespace C25

set_option maxRecDepth 100000 in
theorem ref_new (n : Int) (rm : Nat) (w : World) (hr : roomR n = rm) : Calls Try.prog 48 #[.int .i64 n] w fun e w' => e = .returned (.agg #[.int .i64 rm, .slice none 0 0, .int .i64 0]) ∧ Below w.heap.size w w' := by
  have hm : max 1 (min n 64) = (rm : Int) := by rw [← hr]; unfold roomR; omega
  clear hr
  go_enter Try.func48, Try.ntmps48
  go_wp2_with fail
  refine bodyPost_ret (by simp [results, Try.results48, go_sem]; try rfl) rfl ?_
  exact ⟨rfl, by go_grown⟩

/-- What the reference's Take gives. -/
def RTakeQ (p : Nat → Prop) (room : Int) (l : List Sp) (lost : Int) (j : Nat) (w : World) (e : Ending) (w' : World) : Prop :=
  ∃ a cap a2 cap2, e = .returned (.tuple #[.agg #[.int .i64 room, .slice a (l.drop j).length cap, .int .i64 lost], .slice a2 (l.take j).length cap2]) ∧ Below w.heap.size w w' ∧
    Hid (RowsOf p Sp.enc 11 w' (.slice a (l.drop j).length cap) (l.drop j)) ∧ Hid (RowsOf p Sp.enc 11 w' (.slice a2 (l.take j).length cap2) (l.take j))

set_option maxRecDepth 100000 in
theorem ref_take {p : Nat → Prop} (room lost n : Int) (v : Value) (l : List Sp) (j : Nat) (w : World) (h : RowsOf p Sp.enc 11 w v l) (hp : ∀ b, p b → b < w.heap.size) (hl : l.length ≤ 1000000) (hj : takeN n l = j) :
    Calls Try.prog 49 #[.agg #[.int .i64 room, v, .int .i64 lost], .int .i64 n] w (RTakeQ p room l lost j w) := by
  have hm : max 0 (min n (l.length : Int)) = (j : Int) := by rw [← hj]; unfold takeN; omega
  have hjl : j ≤ l.length := by rw [← hj]; unfold takeN; omega
  clear hj
  have hrr := h
  obtain ⟨a, cap, rfl, hlc, hcm, hnn, _⟩ := hrr
  have k0 : (0 : Int) ≤ (j : Int) := by omega
  have k1 : (j : Int) ≤ (cap : Int) := by omega
  have k2 : (j : Int) ≤ (l.length : Int) := by omega
  have k3 : (l.length : Int) ≤ (cap : Int) := by omega
  have HT : Hid (RowsOf p Sp.enc 11 w (.slice a j cap) (l.take j)) := h.take j hjl
  have htl : (l.take j).length = j := by rw [List.length_take]; omega
  have hdl : (l.drop j).length = l.length - j := List.length_drop
  have HL := hid (And.intro htl hdl)
  have HH := hid h
  have HP := hid hp
  clear h htl hdl hp
  cases a with
  | none =>
    have hc0 := hnn rfl
    subst hc0
    obtain rfl : j = 0 := by omega
    have hl0 : l.length = 0 := by omega
    have hln : l = [] := List.length_eq_zero_iff.1 hl0
    subst hln
    clear hm
    have hm : max 0 (min n 0) = 0 := by omega
    go_enter Try.func49, Try.ntmps49
    go_wp2_with fail
    refine bodyPost_ret (by simp [results, Try.results49, go_sem]; try rfl) rfl ?_
    exact ⟨_, _, _, _, rfl, by go_grown, RowsOf.nil _ _ _ _, RowsOf.nil _ _ _ _⟩
  | some ad =>
    by_cases hcj : cap = j
    · have HD := hid (HH.out.dropCap j hcj)
      go_enter Try.func49, Try.ntmps49
      go_wp2_with fail
      refine bodyPost_ret (by simp [results, Try.results49, go_sem]; try rfl) rfl ?_
      unfold RTakeQ
      rw [HL.out.1, HL.out.2]
      exact ⟨_, _, _, _, rfl, by go_grown, HD.out.below (by go_grown) HP.out, RowsOf.below (by have := HT.out; rw [hcj] at this; exact this) (by go_grown) HP.out⟩
    · have HD := hid (HH.out.dropAt j hjl)
      go_enter Try.func49, Try.ntmps49
      go_wp2_with fail
      refine bodyPost_ret (by simp [results, Try.results49, go_sem]; try rfl) rfl ?_
      unfold RTakeQ
      rw [HL.out.1, HL.out.2]
      exact ⟨_, _, _, _, rfl, by go_grown, HD.out.below (by go_grown) HP.out, HT.out.below (by go_grown) HP.out⟩

theorem ref_put_full (room : Nat) (v : Value) (l : List Sp) (lost : Int) (s : Sp) (w : World) (h : ∃ a cap, v = .slice a l.length cap) (hf : l.length = room) (hlo : 0 ≤ lost) (hhi : lost ≤ 1099511627776) :
    Calls Try.prog 52 #[.agg #[.int .i64 room, v, .int .i64 lost], .agg #[.int .u64 s.hi, .int .u64 s.lo, .int .u64 s.id, .int .u64 s.up, .string s.name, .int .i64 s.status, .int .i64 s.seq, .int .i64 s.kids, .bool s.shadow, .int .i64 s.start, .int .i64 s.stop]] w fun e w' =>
      e = .returned (.tuple #[.agg #[.int .i64 room, v, .int .i64 (min (lost + 1) 1099511627776)], .bool false]) ∧ Below w.heap.size w w' := by
  obtain ⟨a, cap, rfl⟩ := h
  have hr1 : (room : Int) ≤ (l.length : Int) := by omega
  have HF := hid hf
  clear hf
  go_enter Try.func52, Try.ntmps52
  go_wp2_with fail
  refine bodyPost_ret (by simp [results, Try.results52, go_sem]; try rfl) rfl ?_
  exact ⟨rfl, by go_grown⟩

def RPutQ (room : Int) (l : List Sp) (lost : Int) (w : World) (e : Ending) (w' : World) : Prop :=
  ∃ a cap, e = .returned (.tuple #[.agg #[.int .i64 room, .slice a l.length cap, .int .i64 lost], .bool true]) ∧ Below w.heap.size w w' ∧ Hid (RowsOf (fun b => w.heap.size ≤ b ∧ b < w'.heap.size) Sp.enc 11 w' (.slice a l.length cap) l)
set_option maxRecDepth 100000 in
theorem ref_put_more {p : Nat → Prop} (room : Nat) (v : Value) (l : List Sp) (lost : Int) (s : Sp) (w : World) (h : RowsOf p Sp.enc 11 w v l) (hp : ∀ b, p b → b < w.heap.size) (hf : l.length < room) (hl : l.length ≤ 1000000) :
    Calls Try.prog 52 #[.agg #[.int .i64 room, v, .int .i64 lost], .agg #[.int .u64 s.hi, .int .u64 s.lo, .int .u64 s.id, .int .u64 s.up, .string s.name, .int .i64 s.status, .int .i64 s.seq, .int .i64 s.kids, .bool s.shadow, .int .i64 s.start, .int .i64 s.stop]] w (RPutQ room (l ++ [s]) lost w) := by
  have hr1 : ¬ (room : Int) ≤ (l.length : Int) := by omega
  have HH := hid h
  have HP := hid hp
  obtain ⟨a, cap, rfl, _⟩ := h
  have hb3 : Below w.heap.size w (((w.alloc (.cells #[.int .i64 room, .slice a l.length cap, .int .i64 lost] 73)).alloc (.cells #[.int .u64 s.hi, .int .u64 s.lo, .int .u64 s.id, .int .u64 s.up, .string s.name, .int .i64 s.status, .int .i64 s.seq, .int .i64 s.kids, .bool s.shadow, .int .i64 s.start, .int .i64 s.stop] 79)).alloc (.cells #[.int .i64 0, .slice none 0 0, .int .i64 0] 73)) := by go_grown
  have hk1 : Blk (((w.alloc (.cells #[.int .i64 room, .slice a l.length cap, .int .i64 lost] 73)).alloc (.cells #[.int .u64 s.hi, .int .u64 s.lo, .int .u64 s.id, .int .u64 s.up, .string s.name, .int .i64 s.status, .int .i64 s.seq, .int .i64 s.kids, .bool s.shadow, .int .i64 s.start, .int .i64 s.stop] 79)).alloc (.cells #[.int .i64 0, .slice none 0 0, .int .i64 0] 73)) w.heap.size #[.int .i64 room, .slice a l.length cap, .int .i64 lost] 73 := ((Blk.new _ _ _).alloc _).alloc _
  have hk2 : Blk (((w.alloc (.cells #[.int .i64 room, .slice a l.length cap, .int .i64 lost] 73)).alloc (.cells #[.int .u64 s.hi, .int .u64 s.lo, .int .u64 s.id, .int .u64 s.up, .string s.name, .int .i64 s.status, .int .i64 s.seq, .int .i64 s.kids, .bool s.shadow, .int .i64 s.start, .int .i64 s.stop] 79)).alloc (.cells #[.int .i64 0, .slice none 0 0, .int .i64 0] 73)) (w.heap.size + 1) #[.int .u64 s.hi, .int .u64 s.lo, .int .u64 s.id, .int .u64 s.up, .string s.name, .int .i64 s.status, .int .i64 s.seq, .int .i64 s.kids, .bool s.shadow, .int .i64 s.start, .int .i64 s.stop] 79 := (Blk.new' _ _ _ (by simp)).alloc _
  have hk3 : Blk (((w.alloc (.cells #[.int .i64 room, .slice a l.length cap, .int .i64 lost] 73)).alloc (.cells #[.int .u64 s.hi, .int .u64 s.lo, .int .u64 s.id, .int .u64 s.up, .string s.name, .int .i64 s.status, .int .i64 s.seq, .int .i64 s.kids, .bool s.shadow, .int .i64 s.start, .int .i64 s.stop] 79)).alloc (.cells #[.int .i64 0, .slice none 0 0, .int .i64 0] 73)) (w.heap.size + 2) #[.int .i64 0, .slice none 0 0, .int .i64 0] 73 := Blk.new' _ _ _ (by simp)
  have HC : Hid (Cellz p 11 (((w.alloc (.cells #[.int .i64 room, .slice a l.length cap, .int .i64 lost] 73)).alloc (.cells #[.int .u64 s.hi, .int .u64 s.lo, .int .u64 s.id, .int .u64 s.up, .string s.name, .int .i64 s.status, .int .i64 s.seq, .int .i64 s.kids, .bool s.shadow, .int .i64 s.start, .int .i64 s.stop] 79)).alloc (.cells #[.int .i64 0, .slice none 0 0, .int .i64 0] 73)) (.slice a l.length cap) l.length (l.flatMap Sp.enc)) := (HH.out.below hb3 HP.out).cellz Sp.enc_length
  have HB3 := hid hb3
  have HK1 := hid hk1
  have HK2 := hid hk2
  have HK3 := hid hk3
  have hone := one_sp l
  have HO := hid hone
  clear hp hb3 hk1 hk2 hk3 HH hone
  go_enter Try.func52, Try.ntmps52
  go_wp2_with (at_builtin; refine wpList_pushCells elem71 rfl _ _ rfl (w.heap.size + 3) _ 0 [] rfl (World.ownsRow_nil _ _ _ _) rfl HC.out HO.out ?_ ?_ ?_ ?_)
  · unfold maxLen; omega
  · omega
  intro v1 w1 hown1 hb1
  have hk1 := HK1.out.below hb1 (by omega)
  have hk2 := HK2.out.below hb1 (by omega)
  have hk3 := HK3.out.below hb1 (by omega)
  have hb : Below w.heap.size w w1 := HB3.out.trans (hb1.mono (by omega))
  have hz1 : w.heap.size + 3 ≤ w1.heap.size := by have := hb1.size; simpa using this
  have s0 : w1.cell? ⟨w.heap.size + 1, 0, none⟩ = some (.int .u64 s.hi) := hk2.cell 0
  have s1 : w1.cell? ⟨w.heap.size + 1, 1, none⟩ = some (.int .u64 s.lo) := hk2.cell 1
  have s2 : w1.cell? ⟨w.heap.size + 1, 2, none⟩ = some (.int .u64 s.id) := hk2.cell 2
  have s3 : w1.cell? ⟨w.heap.size + 1, 3, none⟩ = some (.int .u64 s.up) := hk2.cell 3
  have s4 : w1.cell? ⟨w.heap.size + 1, 4, none⟩ = some (.string s.name) := hk2.cell 4
  have s5 : w1.cell? ⟨w.heap.size + 1, 5, none⟩ = some (.int .i64 s.status) := hk2.cell 5
  have s6 : w1.cell? ⟨w.heap.size + 1, 6, none⟩ = some (.int .i64 s.seq) := hk2.cell 6
  have s7 : w1.cell? ⟨w.heap.size + 1, 7, none⟩ = some (.int .i64 s.kids) := hk2.cell 7
  have s8 : w1.cell? ⟨w.heap.size + 1, 8, none⟩ = some (.bool s.shadow) := hk2.cell 8
  have s9 : w1.cell? ⟨w.heap.size + 1, 9, none⟩ = some (.int .i64 s.start) := hk2.cell 9
  have s10 : w1.cell? ⟨w.heap.size + 1, 10, none⟩ = some (.int .i64 s.stop) := hk2.cell 10
  have HB1 := hid hb
  have HK1 := hid hk1
  have HK3 := hid hk3
  have HO1 : Hid (w1.ownsRow (w.heap.size + 3) 79 11 v1 l.length (l.flatMap Sp.enc)) := hid (by simpa using hown1)
  have HO9 : Hid (∀ u ∈ s.enc, u.oneCell' = true) := by intro u hu; exact one_sp [s] u (by simpa using hu)
  clear hb hb1 hk1 hk2 hk3 hown1 HC HO HB3 HK2
  go_wp2_with (at_builtin; refine wpList_push (w0 := w1) (T := 79) (news := s.enc) elem71 rfl _ _ rfl (w.heap.size + 3) _ _ _ rfl HO1.out rfl rfl rfl HO9.out ?_ ?_ hz1 ?_)
  · unfold maxLen; omega
  · omega
  intro v2 w2 hown2 hb2
  have hk1 := HK1.out.below hb2 (by omega)
  have hk3 := HK3.out.below hb2 (by omega)
  have hb : Below w.heap.size w w2 := HB1.out.trans (hb2.mono (by omega))
  have hz2 : w.heap.size + 3 ≤ w2.heap.size := Nat.le_trans hz1 hb2.size
  have d0 : w2.cell? ⟨w.heap.size, 0, none⟩ = some (.int .i64 room) := hk1.cell 0
  have d1 : w2.cell? ⟨w.heap.size, 1, none⟩ = some (.slice a l.length cap) := hk1.cell 1
  have d2 : w2.cell? ⟨w.heap.size, 2, none⟩ = some (.int .i64 lost) := hk1.cell 2
  have f1 := hk1.free 1
  have z0 : w2.cell? ⟨w.heap.size + 2, 0, none⟩ = some (.int .i64 0) := hk3.cell 0
  have z1 : w2.cell? ⟨w.heap.size + 2, 1, none⟩ = some (.slice none 0 0) := hk3.cell 1
  have z2 : w2.cell? ⟨w.heap.size + 2, 2, none⟩ = some (.int .i64 0) := hk3.cell 2
  have g0 := hk3.free 0
  have g1 := hk3.free 1
  have g2 := hk3.free 2
  have hr2 : RowsOf (fun b => w.heap.size + 3 ≤ b ∧ b < w2.heap.size) Sp.enc 11 w2 v2 (l ++ [s]) := by
    refine RowsOf.of_owns (e := 79) Sp.enc_length ?_
    simpa using hown2
  have HR2 := hid hr2
  obtain ⟨a2, cap2, rfl, _⟩ := hr2
  have HB2 := hid hb
  have hll : (l ++ [s]).length = l.length + 1 := by simp
  have HLL := hid hll
  rw [hll] at HR2 ⊢
  have FIN : Hid (∀ W', Only [w.heap.size, w.heap.size + 2] w2 W' → Below w.heap.size w W' ∧ Hid (RowsOf (fun b => w.heap.size ≤ b ∧ b < W'.heap.size) Sp.enc 11 W' (.slice a2 (l.length + 1) cap2) (l ++ [s]))) := by
    intro W' ho
    refine ⟨HB2.out.trans (ho.below (by omega) (by simp)), ?_⟩
    refine (HR2.out.only ho ?_).imp ?_
    · rintro b' ⟨q1, q2⟩; exact ⟨q2, by simp; omega⟩
    · rintro b' ⟨q1, q2⟩; exact ⟨by omega, Nat.lt_of_lt_of_le q2 ho.size⟩
  clear hb hb2 hk1 hk3 hown2 hll HK1 HK3 HO1 HO9 s0 s1 s2 s3 s4 s5 s6 s7 s8 s9 s10
  go_wp2_with fail
  refine bodyPost_ret (by simp [results, Try.results52, go_sem, z0, z1, z2]; try rfl) rfl ?_
  unfold RPutQ
  rw [HLL.out]
  refine ⟨_, _, rfl, FIN.out _ ?_⟩
  repeat (first | exact Only.refl _ _ | refine Only.drew ?_ | refine Only.setCell ?_ (by simp) _)
end C25
end Go.Proofs.Ytefaegoajjcfjaa
