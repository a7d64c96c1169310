/- What the law ExportQuiet holds in memory. -/
import Derived.Test.YtcohcanakicmpaaMg11
import Derived.Test.YtcohcanakicmpaaP27c
namespace Go.Proofs.Ytcohcanakicmpaa
open Go.RowKit Go.Peri
open Sq (rest ixQ atQ total bk benc)
open Gen (owns_le owns_below owns_at)
open C26 (clk Fresh QR)
open C25 (BufIs roomR own Moved putR takeN)
open C10 (Okb bW BrQ)
open C09 (chS)
namespace C27
structure QK (W w0 wr : World) (gX gS gB : Nat) (h : Option Nat) (c : Lim) (x : Xs) (put got : List Sp) (pv gv : Value) : Prop where
  ex : XIs wr gX gS gB h 0 c x
  below : Below W.heap.size W wr
  box : Blk wr W.heap.size #[.int .i64 c.a0, .int .i64 c.a1, .int .i64 c.a2, .int .i64 c.buf, .int .i64 c.batch, .int .i64 c.every, .int .i64 c.flight, .int .i64 c.retry, .int .i64 c.tries, .int .i64 c.a9, .int .i64 c.a10, .slice c.ida c.idn c.idc] 24
  nb : W.heap.size ∉ gS :: own gB h
  np : ∀ k ∈ blocks pv, k ∉ gS :: own gB h
  ng : ∀ k ∈ blocks gv, k ∉ gS :: own gB h
  pg : ∀ k ∈ blocks pv, k ∉ blocks gv
  gw : W.heap.size < gB
  gx : gX < w0.heap.size
  lt : W.heap.size < w0.heap.size
  sz : w0.heap.size ≤ wr.heap.size
  prow : wr.ownsRow w0.heap.size 37 11 pv put.length (put.flatMap Sp.enc)
  grow : wr.ownsRow w0.heap.size 37 11 gv got.length (got.flatMap Sp.enc)
section
variable {W w0 wr w' : World} {gX gS gB : Nat} {h h' : Option Nat} {c : Lim} {x x' : Xs} {put put' got got' : List Sp} {pv pv' gv gv' : Value}
theorem QK.step (k : QK W w0 wr gX gS gB h c x put got pv gv) (ho : Only (gS :: own gB h) wr w') (hm : Moved wr h h') (hx : XIs w' gX gS gB h' 0 c x') : QK W w0 w' gX gS gB h' c x' put got pv gv :=
  ⟨hx, k.below.trans ((k.ex.s.below ho).mono (Nat.le_of_lt k.gw)), k.box.only ho k.nb, ne_moved k.box.lt k.nb hm, fun b hb => ne_moved (owns_bd k.prow b hb).2 (k.np b hb) hm, fun b hb => ne_moved (owns_bd k.grow b hb).2 (k.ng b hb) hm, k.pg, k.gw, k.gx, k.lt, Nat.le_trans k.sz ho.size, owns_keep k.prow ho k.np, owns_keep k.grow ho k.ng⟩
theorem QK.later (k : QK W w0 wr gX gS gB h c x put got pv gv) (hb : Below wr.heap.size wr w') : QK W w0 w' gX gS gB h c x put got pv gv :=
  ⟨k.ex.later hb, k.below.trans (hb.mono k.below.size), k.box.later hb, k.nb, k.np, k.ng, k.pg, k.gw, k.gx, k.lt, Nat.le_trans k.sz hb.size, owns_below k.prow hb, owns_below k.grow hb⟩
/-- With nothing under way an exporter is what it was, whatever turned elsewhere. -/
theorem XIs.onlyE {Y : List Nat} (hx : XIs wr gX gS gB h 0 c x) (hw : x.way = []) (ho : Only Y wr w') (hY : ∀ b ∈ Y, b ∉ gS :: own gB h ∧ b ≠ gX) : XIs w' gX gS gB h 0 c x := by
  obtain ⟨⟨a, cap, h1, h2⟩, h3, h4, h5, h6⟩ := hx.s
  refine ⟨hx.bx.only ho (fun hm => (hY _ hm).2 rfl), ⟨⟨a, cap, h1.only ho (fun hm => (hY _ hm).1 (by simp)), ?_⟩, bufOnly h3 ho (fun b hb hm => (hY b hb).1 (by simp [hm])), h4, h5, fun b hb => Nat.lt_of_lt_of_le (h6 b hb) ho.size⟩, hx.ne, hx.lt⟩
  rw [hw] at h2 ⊢
  obtain ⟨l1, e1, ⟨a2, c2, e2, g1, g2, g3, g4⟩, e4⟩ := h2
  obtain rfl := List.map_eq_nil_iff.1 e1
  exact ⟨[], rfl, ⟨a2, c2, e2, g1, g2, g3, .inl rfl⟩, by simp⟩
theorem QK.onPut (k : QK W w0 wr gX gS gB h c x put got pv gv) (hw : x.way = []) (hg : gv = .slice none 0 0) (ho : Only (blocks pv) wr w') (hm : Moves wr.heap.size (blocks pv) (blocks pv')) (hr : w'.ownsRow w0.heap.size 37 11 pv' put'.length (put'.flatMap Sp.enc)) : QK W w0 w' gX gS gB h c x put' got pv' gv := by
  have hbd := owns_bd k.prow
  have hz := k.sz
  have hgx := k.gx
  have hlt := k.lt
  have hL := k.ex.gS_lt
  have hgb : blocks gv = [] := by rw [hg]; rfl
  refine ⟨k.ex.onlyE hw ho (fun b hb => ⟨k.np b hb, by have := (hbd b hb).1; omega⟩), k.below.trans (ho.below k.below.size (fun b hb => by have := (hbd b hb).1; omega)), k.box.only ho (fun hb => by have := (hbd _ hb).1; omega), k.nb, fun b hb hm2 => ?_, k.ng, fun b hb => by rw [hgb]; simp, k.gw, k.gx, k.lt, Nat.le_trans k.sz ho.size, hr, owns_keep k.grow ho (fun b hb => by rw [hgb] at hb; simp at hb)⟩
  rcases hm b hb with h1 | h1
  · exact k.np b h1 hm2
  · have := hL b hm2; omega
theorem QK.onGot (k : QK W w0 wr gX gS gB h c x put got pv gv) (hw : x.way = []) (ho : Only (blocks gv) wr w') (hm : Moves wr.heap.size (blocks gv) (blocks gv')) (hr : w'.ownsRow w0.heap.size 37 11 gv' got'.length (got'.flatMap Sp.enc)) : QK W w0 w' gX gS gB h c x put got' pv gv' := by
  have hbd := owns_bd k.grow
  have hbp := owns_bd k.prow
  have hz := k.sz
  have hgx := k.gx
  have hlt := k.lt
  have hL := k.ex.gS_lt
  refine ⟨k.ex.onlyE hw ho (fun b hb => ⟨k.ng b hb, by have := (hbd b hb).1; omega⟩), k.below.trans (ho.below k.below.size (fun b hb => by have := (hbd b hb).1; omega)), k.box.only ho (fun hb => by have := (hbd _ hb).1; omega), k.nb, k.np, fun b hb hm2 => ?_, fun b hb hm2 => ?_, k.gw, k.gx, k.lt, Nat.le_trans k.sz ho.size, owns_keep k.prow ho k.pg, hr⟩
  · rcases hm b hb with h1 | h1
    · exact k.ng b h1 hm2
    · have := hL b hm2; omega
  · rcases hm b hm2 with h1 | h1
    · exact k.pg b hb h1
    · have := (hbp b hb).2; omega
end
theorem qk_start {W w0 : World} {gX gS gB : Nat} {c : Lim} (hx : XIs w0 gX gS gB none 0 c x0) (hb : Below W.heap.size W w0) (hk : Blk w0 W.heap.size #[.int .i64 c.a0, .int .i64 c.a1, .int .i64 c.a2, .int .i64 c.buf, .int .i64 c.batch, .int .i64 c.every, .int .i64 c.flight, .int .i64 c.retry, .int .i64 c.tries, .int .i64 c.a9, .int .i64 c.a10, .slice c.ida c.idn c.idc] 24) (hg : W.heap.size < gB) : QK W w0 w0 gX gS gB none c x0 [] [] (.slice none 0 0) (.slice none 0 0) := by
  have h1 := hx.s.lt
  have h2 := hx.s.gSlt
  exact ⟨hx, hb, hk, by simp [own]; omega, by simp [blocks, Value.ownBlock], by simp [blocks, Value.ownBlock], by simp [blocks, Value.ownBlock], hg, hx.bx.lt, hk.lt, Nat.le_refl _, World.ownsRow_nil _ _ _ _, World.ownsRow_nil _ _ _ _⟩
/-- What the first loop holds. -/
structure PI (c : Lim) (x : Xs) (i : Nat) (put : List Sp) : Prop where
  qi : QI c x i put []
  last : x.last = 0
theorem pi0 {c : Lim} (ok : c.Ok) : PI c x0 0 [] := ⟨⟨⟨0, [], inv0 ok⟩, rfl, rfl, rfl⟩, rfl⟩
theorem pi_put {c : Lim} {x : Xs} {i : Nat} {put : List Sp} (h : PI c x i put) (hi : i ≤ 1000) (y : Sp) (hy : y.Wf) : PI c (putX c x y) (i + 1) (if putE c x y = 0 then put ++ [y] else put) := by
  obtain ⟨⟨⟨b, s, h1⟩, h2, h3, h4⟩, h5⟩ := h
  have h6 := inv_put h1 hi y hy
  have e1 : (putX c x y).way = x.way := by unfold putX; split <;> rfl
  have e2 : (putX c x y).last = x.last := by unfold putX; split <;> rfl
  have e3 : (putX c x y).acked = x.acked := by unfold putX; split <;> rfl
  have e4 : (putX c x y).wait = if putE c x y = 0 then x.wait ++ [y] else x.wait := by
    unfold putX putE putR
    by_cases g1 : chS y = 0
    · rw [if_pos g1, if_pos g1]
      by_cases g2 : x.wait.length < roomR c.buf
      · simp [g2]
      · simp [g2]
    · rw [if_neg g1, if_neg g1, if_neg g1]
  refine ⟨⟨⟨_, _, h6⟩, by rw [e1]; exact h2, ?_, by rw [e3]; exact h4⟩, by rw [e2]; exact h5⟩
  rw [e4]
  simp only [List.nil_append] at h3 ⊢
  rw [h3]
end C27
end Go.Proofs.Ytcohcanakicmpaa
