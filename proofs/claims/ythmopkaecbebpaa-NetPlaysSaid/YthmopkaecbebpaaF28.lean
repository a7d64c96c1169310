/- Walks of layer 28 (net): the document's Send, Take, Lose, Copy; no condition. -/
import Derived.Test.YthmopkaecbebpaaE28
import Derived.RegionTactic
namespace Go.Proofs.Ythmopkaecbebpaa
open Go.RowKit Go.Peri
namespace C28
/-- What the document's net reads as. -/
structure RIs (p : Nat → Prop) (w : World) (v : Value) (s : Nt) : Prop where
  ex : ∃ a cap, v = .agg #[.slice a s.all.length cap, .int .i64 s.next, .int .i64 s.lost] ∧ RowsOf p Lt.enc 4 w (.slice a s.all.length cap) s.all
theorem RIs.imp {p q : Nat → Prop} {w : World} {v : Value} {s : Nt} (h : RIs p w v s) (hpq : ∀ b, p b → q b) : RIs q w v s := by
  obtain ⟨a, cap, e, h⟩ := h.ex
  exact ⟨a, cap, e, h.imp hpq⟩
theorem RIs.below {p : Nat → Prop} {B : Nat} {w w' : World} {v : Value} {s : Nt} (h : RIs p w v s) (hb : Below B w w') (hp : ∀ b, p b → b < B) : RIs p w' v s := by
  obtain ⟨a, cap, e, h⟩ := h.ex
  exact ⟨a, cap, e, h.below hb hp⟩
/-- What the document's calls give. -/
def RQ (p : Nat → Prop) (W : World) (s : Nt) (r : Bool) (e : Ending) (w' : World) : Prop :=
  ∃ a cap, e = .returned (.tuple #[.agg #[.slice a s.all.length cap, .int .i64 s.next, .int .i64 s.lost], .bool r]) ∧ Below W.heap.size W w' ∧ Hid (RowsOf (fun b => p b ∨ (W.heap.size ≤ b ∧ b < w'.heap.size)) Lt.enc 4 w' (.slice a s.all.length cap) s.all)
set_option maxRecDepth 100000 in
theorem rsend_full {p : Nat → Prop} (a : Option Addr) (cap : Nat) (s s' : Nt) (f t : Int) (b : ByteArray) (W : World) (h : RowsOf p Lt.enc 4 W (.slice a s.all.length cap) s.all) (hp : ∀ b, p b → b < W.heap.size) (hf : 256 ≤ s.all.length) (hlo : s.lost ≤ 1099511627776) (hs : s.lose1 = s') :
    Calls Try.prog 70 #[.agg #[.slice a s.all.length cap, .int .i64 s.next, .int .i64 s.lost], .int .i64 f, .int .i64 t, .string b] W (RQ p W s' false) := by
  subst hs
  have HH := hid h
  have HP := hid hp
  have h5 : (256 : Int) ≤ (s.all.length : Int) := by omega
  have hfin : Hid (min ((s.lost : Int) + 1) 1099511627776 = ((s.lose1.lost : Nat) : Int)) := by show _ = ((min (s.lost + 1) 1099511627776 : Nat) : Int); omega
  clear hp h
  go_enter Try.func70, Try.ntmps70
  go_wp2_with fail
  refine bodyPost_ret (by simp [results, Try.results70, go_sem]; try rfl) rfl ?_
  refine ⟨a, cap, by rw [hfin.out]; rfl, by go_grown, (HH.out.below (by go_grown) HP.out).imp (fun b hb => .inl hb)⟩
set_option maxRecDepth 100000 in
set_option maxHeartbeats 1000000 in
theorem rsend_more {p : Nat → Prop} (a : Option Addr) (cap : Nat) (s s' : Nt) (f t : Int) (b : ByteArray) (W : World) (h : RowsOf p Lt.enc 4 W (.slice a s.all.length cap) s.all) (hp : ∀ b, p b → b < W.heap.size) (hf : s.all.length < 256) (hn : s.next ≤ 100000) (hs : s.send f t b = s') :
    Calls Try.prog 70 #[.agg #[.slice a s.all.length cap, .int .i64 s.next, .int .i64 s.lost], .int .i64 f, .int .i64 t, .string b] W (RQ p W s' true) := by
  have he : s.send f t b = ⟨s.all ++ [⟨s.next, f, t, b⟩], s.next + 1, s.lost⟩ := if_neg (by omega)
  rw [he] at hs
  have g3 : ¬ (256 : Int) ≤ (s.all.length : Int) := by omega
  have HH := hid h
  have HP := hid hp
  clear hp h he
  go_enter Try.func70, Try.ntmps70
  go_upto_region 5 with fail
  refine wpGen ?_
  intro w0 hw0
  have HB0 : Hid (Below W.heap.size W w0) := by show Below _ _ _; rw [hw0]; go_grown
  have HX0 : Hid (Blk w0 W.heap.size #[.slice a s.all.length cap, .int .i64 s.next, .int .i64 s.lost] 52) := by show Blk _ _ _ _; rw [hw0]; exact (Blk.new _ _ _).alloc _
  have HY0 : Hid (Blk w0 (W.heap.size + 1) #[.slice none 0 0, .int .i64 0, .int .i64 0] 52) := by show Blk _ _ _ _; rw [hw0]; exact Blk.new' _ _ _ (by simp)
  have hs0 : W.heap.size + 2 ≤ w0.heap.size := by rw [hw0]; simp
  clear hw0
  have HCZ : Hid (Cellz p 4 w0 (.slice a s.all.length cap) s.all.length (s.all.flatMap Lt.enc)) := (HH.out.below HB0.out HP.out).cellz Lt.enc_length
  have x0 : w0.cell? ⟨W.heap.size, 0, none⟩ = some (.slice a s.all.length cap) := HX0.out.cell 0
  have HS := hid hs
  clear hs
  go_wp2_with (at_builtin; refine wpList_pushCells elemL rfl _ _ rfl w0.heap.size _ 0 [] rfl (World.ownsRow_nil _ _ _ _) rfl HCZ.out (Lt.one s.all) ?_ ?_ ?_ ?_)
  · unfold maxLen; omega
  · omega
  intro v1 w1 hown1 hb1
  have HO1 : Hid (w1.ownsRow w0.heap.size 62 4 v1 s.all.length (s.all.flatMap Lt.enc)) := hid (by simpa using hown1)
  have HX1 := hid (HX0.out.later hb1)
  have HY1 := hid (HY0.out.later hb1)
  have hs1 := hb1.size
  have HB1 : Hid (Below W.heap.size W w1) := HB0.out.trans (hb1.mono (by omega))
  have y1 : w1.cell? ⟨W.heap.size, 1, none⟩ = some (.int .i64 s.next) := HX1.out.cell 1
  clear hown1 hb1 x0
  go_wp2_with (at_builtin; refine wpList_push (w0 := w1) (T := 62) (news := Lt.enc ⟨s.next, f, t, b⟩) elemL rfl _ _ rfl w0.heap.size _ _ _ rfl HO1.out rfl rfl rfl (by intro u hu; exact Lt.one [⟨s.next, f, t, b⟩] u (by simpa using hu)) ?_ ?_ hs1 ?_)
  · unfold maxLen; omega
  · omega
  intro v2 w2 hown2 hb2
  have hr2 : RowsOf (fun b => w0.heap.size ≤ b ∧ b < w2.heap.size) Lt.enc 4 w2 v2 (s.all ++ [⟨s.next, f, t, b⟩]) := by
    refine RowsOf.of_owns (e := 62) Lt.enc_length ?_
    simpa using hown2
  obtain ⟨L, hL⟩ : ∃ L, L = s.all ++ [⟨s.next, f, t, b⟩] := ⟨_, rfl⟩
  rw [← hL] at hr2
  have HR2 := hid hr2
  obtain ⟨a2, cap2, rfl, _⟩ := hr2
  have hs' := HS.out
  rw [← hL] at hs'
  have HS2 := hid hs'
  clear hL hs' HS
  have HB2 : Hid (Below W.heap.size W w2) := HB1.out.trans (hb2.mono (by omega))
  have HX2 := hid (HX1.out.below hb2 (by omega))
  have HY2 := hid (HY1.out.below hb2 (by omega))
  have hs2 := hb2.size
  have z0 : w2.cell? ⟨W.heap.size, 0, none⟩ = some (.slice a s.all.length cap) := HX2.out.cell 0
  have z1 : w2.cell? ⟨W.heap.size, 1, none⟩ = some (.int .i64 s.next) := HX2.out.cell 1
  have zf := HX2.out.free 0
  have zf1 := HX2.out.free 1
  clear hown2 hb2 y1
  go_upto_region 9 with fail
  refine wpGen ?_
  intro w3 hw3
  have hO3 : Only [W.heap.size] w2 w3 := by rw [hw3]; exact ((Only.refl _ _).setCell (by simp) _).setCell (by simp) _
  have HX3 : Hid (Blk w3 W.heap.size #[.slice a2 L.length cap2, .int .i64 ((s.next : Int) + 1), .int .i64 s.lost] 52) := by show Blk _ _ _ _; rw [hw3]; exact (HX2.out.set 0 _).set 1 _
  have HY3 := hid (HY2.out.only hO3 (by simp))
  have HO3 := hid hO3
  clear hw3 hO3 z0 z1 zf zf1
  have z0 : w3.cell? ⟨W.heap.size, 0, none⟩ = some (.slice a2 L.length cap2) := HX3.out.cell 0
  have z1 : w3.cell? ⟨W.heap.size, 1, none⟩ = some (.int .i64 ((s.next : Int) + 1)) := HX3.out.cell 1
  have z2 : w3.cell? ⟨W.heap.size, 2, none⟩ = some (.int .i64 s.lost) := HX3.out.cell 2
  have t0 : w3.cell? ⟨W.heap.size + 1, 0, none⟩ = some (.slice none 0 0) := HY3.out.cell 0
  have t1 : w3.cell? ⟨W.heap.size + 1, 1, none⟩ = some (.int .i64 0) := HY3.out.cell 1
  have t2 : w3.cell? ⟨W.heap.size + 1, 2, none⟩ = some (.int .i64 0) := HY3.out.cell 2
  have tf0 := HY3.out.free 0
  have tf1 := HY3.out.free 1
  have tf2 := HY3.out.free 2
  have hg5 := HX3.out.lt
  have hg6 := HY3.out.lt
  go_wp2_with fail
  refine bodyPost_ret (by simp [results, Try.results70, go_sem, t0, t1, t2]; try rfl) rfl ?_
  have hO : ∀ u v x, Only [W.heap.size, W.heap.size + 1] w2 (((w3.setCell ⟨W.heap.size + 1, 0, none⟩ u).setCell ⟨W.heap.size + 1, 1, none⟩ v).setCell ⟨W.heap.size + 1, 2, none⟩ x) := fun u v x => ((((HO3.out.mono (by simp)).setCell (p := ⟨W.heap.size + 1, 0, none⟩) (by simp) u).setCell (p := ⟨W.heap.size + 1, 1, none⟩) (by simp) v).setCell (p := ⟨W.heap.size + 1, 2, none⟩) (by simp) x)
  rw [← HS2.out]
  refine ⟨a2, cap2, rfl, HB2.out.trans ((hO _ _ _).below (by omega) (by simp)), ?_⟩
  exact (HR2.out.only (hO _ _ _) (fun b hb => ⟨hb.2, by simp; omega⟩)).imp (fun b hb => .inr ⟨by omega, Nat.lt_of_lt_of_le hb.2 (hO _ _ _).size⟩)
theorem rsend_any {p : Nat → Prop} (a : Option Addr) (cap : Nat) (s s' : Nt) (f t : Int) (b : ByteArray) (r : Bool) (W : World) (h : RowsOf p Lt.enc 4 W (.slice a s.all.length cap) s.all) (hp : ∀ b, p b → b < W.heap.size) (hn : s.next ≤ 100000) (hlo : s.lost ≤ 1099511627776) (hr : s.sendB = r) (hs : s.send f t b = s') :
    Calls Try.prog 70 #[.agg #[.slice a s.all.length cap, .int .i64 s.next, .int .i64 s.lost], .int .i64 f, .int .i64 t, .string b] W (RQ p W s' r) := by
  subst hr
  by_cases hf : s.all.length < 256
  · have e : s.sendB = true := decide_eq_true hf
    rw [e]
    exact rsend_more a cap s s' f t b W h hp hf hn hs
  · have e : s.sendB = false := decide_eq_false hf
    have e2 : s.send f t b = s.lose1 := if_pos (by omega)
    rw [e]
    rw [e2] at hs
    exact rsend_full a cap s s' f t b W h hp (by omega) hlo hs
/-- What the document's Take gives. -/
def RTQ (p : Nat → Prop) (W : World) (s : Nt) (x : Lt) (r : Bool) (e : Ending) (w' : World) : Prop :=
  ∃ a cap, e = .returned (.tuple #[.agg #[.slice a s.all.length cap, .int .i64 s.next, .int .i64 s.lost], .agg #[.int .i64 x.no, .int .i64 x.from_, .int .i64 x.to, .string x.bytes], .bool r]) ∧ Below W.heap.size W w' ∧ Hid (RowsOf (fun b => p b ∨ (W.heap.size ≤ b ∧ b < w'.heap.size)) Lt.enc 4 w' (.slice a s.all.length cap) s.all)
set_option maxRecDepth 100000 in
theorem rtake_no {p : Nat → Prop} (a : Option Addr) (cap : Nat) (s : Nt) (k : Int) (W : World) (h : RowsOf p Lt.enc 4 W (.slice a s.all.length cap) s.all) (hp : ∀ b, p b → b < W.heap.size) (hk : s.has k = false) :
    Calls Try.prog 71 #[.agg #[.slice a s.all.length cap, .int .i64 s.next, .int .i64 s.lost], .int .i64 k] W (RTQ p W s Lt.zero false) := by
  have HH := hid h
  have HP := hid hp
  have hh : ¬ (0 ≤ k ∧ k < s.all.length) := by rw [← Nt.has_iff]; simp [hk]
  clear hp h hk
  by_cases h1 : k < 0
  · go_enter Try.func71, Try.ntmps71
    go_wp2_with fail
    refine bodyPost_ret (by simp [results, Try.results71, go_sem]; try rfl) rfl ?_
    exact ⟨a, cap, rfl, by go_grown, (HH.out.below (by go_grown) HP.out).imp (fun b hb => .inl hb)⟩
  · have h2 : (s.all.length : Int) ≤ k := by omega
    clear hh
    go_enter Try.func71, Try.ntmps71
    go_wp2_with fail
    refine bodyPost_ret (by simp [results, Try.results71, go_sem]; try rfl) rfl ?_
    exact ⟨a, cap, rfl, by go_grown, (HH.out.below (by go_grown) HP.out).imp (fun b hb => .inl hb)⟩
set_option maxRecDepth 100000 in
set_option maxHeartbeats 1000000 in
theorem rtake_yes {p : Nat → Prop} (a : Option Addr) (cap : Nat) (s s' : Nt) (k : Nat) (x : Lt) (W : World) (h : RowsOf p Lt.enc 4 W (.slice a s.all.length cap) s.all) (hp : ∀ b, p b → b < W.heap.size) (hk : k < s.all.length) (hl : s.all.length ≤ 256) (hs : s.off k = s') (hx : s.at_ k = x) :
    Calls Try.prog 71 #[.agg #[.slice a s.all.length cap, .int .i64 s.next, .int .i64 s.lost], .int .i64 k] W (RTQ p W s' x true) := by
  have hlc : s.all.length ≤ cap := by obtain ⟨_, _, e, h2, _⟩ := h; cases e; exact h2
  have hcm : cap ≤ maxLen := by obtain ⟨_, _, e, _, h2, _⟩ := h; cases e; exact h2
  unfold maxLen at hcm
  obtain ⟨b, off, ha, hpb, hc⟩ : ∃ b off, a = some ⟨b, off, none⟩ ∧ p b ∧ ∀ i (hi : i < s.all.length) j u, (Lt.enc s.all[i])[j]? = some u → W.cell? ⟨b, off + i * 4 + j, none⟩ = some u := by
    obtain ⟨_, _, e, _, _, _, h5⟩ := h
    cases e
    exact h5.resolve_left (by intro e; rw [e] at hk; simp at hk)
  subst ha
  have hat : s.at_ k = s.all[k] := by show s.all.getD _ _ = _; simp [List.getD, hk]
  rw [hat] at hx
  obtain ⟨y0, y1, y2, y3⟩ := Lt.cells (hc k hk)
  rw [hx] at y0 y1 y2 y3
  have hbl := hp b hpb
  have h1 : ¬ (k : Int) < 0 := by omega
  have h2 : ¬ (s.all.length : Int) ≤ (k : Int) := by omega
  have j0 : (0 : Int) ≤ (k : Int) := by omega
  have j1 : (k : Int) ≤ (cap : Int) := by omega
  have j2 : (0 : Int) ≤ (k : Int) + 1 := by omega
  have j3 : (k : Int) + 1 ≤ (s.all.length : Int) := by omega
  have j4 : (s.all.length : Int) ≤ (cap : Int) := by omega
  have HT : Hid (RowsOf p Lt.enc 4 W (.slice (some ⟨b, off, none⟩) k cap) (s.all.take k)) := h.take k (by omega)
  have htl : (s.all.take k).length = k := by rw [List.length_take]; omega
  have hdl : (s.all.drop (k + 1)).length = s.all.length - (k + 1) := List.length_drop
  have HL := hid (And.intro htl hdl)
  have HH := hid h
  have HP := hid hp
  have HS := hid hs
  have hsum : k + (s.all.length - (k + 1)) + 1 = s.all.length := by omega
  clear h hp hc hat hx hs htl hdl
  go_enter Try.func71, Try.ntmps71
  go_upto_region 3 with fail
  refine wpGen ?_
  intro w0 hw0
  have HB0 : Hid (Below W.heap.size W w0) := by show Below _ _ _; rw [hw0]; go_grown
  have HX0 : Hid (Blk w0 W.heap.size #[.slice (some ⟨b, off, none⟩) s.all.length cap, .int .i64 s.next, .int .i64 s.lost] 52) := by show Blk _ _ _ _; rw [hw0]; exact ((Blk.new _ _ _).alloc _).alloc _
  have HY0 : Hid (Blk w0 (W.heap.size + 1) #[.slice none 0 0, .int .i64 0, .int .i64 0] 52) := by show Blk _ _ _ _; rw [hw0]; exact (Blk.new' _ _ _ (by simp)).alloc _
  have HZ0 : Hid (Blk w0 (W.heap.size + 2) #[.int .i64 0, .int .i64 0, .int .i64 0, .string ByteArray.empty] 62) := by show Blk _ _ _ _; rw [hw0]; exact Blk.new' _ _ _ (by simp)
  have hs0 : W.heap.size + 3 ≤ w0.heap.size := by rw [hw0]; simp
  clear hw0
  have v0 : w0.cell? ⟨b, off + k * 4, none⟩ = some (.int .i64 x.no) := (HB0.out.cell hbl).trans y0
  have v1 : w0.cell? ⟨b, off + k * 4 + 1, none⟩ = some (.int .i64 x.from_) := (HB0.out.cell hbl).trans y1
  have v2 : w0.cell? ⟨b, off + k * 4 + 2, none⟩ = some (.int .i64 x.to) := (HB0.out.cell hbl).trans y2
  have v3 : w0.cell? ⟨b, off + k * 4 + 3, none⟩ = some (.string x.bytes) := (HB0.out.cell hbl).trans y3
  have x0 : w0.cell? ⟨W.heap.size, 0, none⟩ = some (.slice (some ⟨b, off, none⟩) s.all.length cap) := HX0.out.cell 0
  clear y0 y1 y2 y3
  go_upto_region 5 with fail
  refine wpGen ?_
  intro w1 hw1
  obtain ⟨gx, hgx⟩ : ∃ g, g = w0.heap.size := ⟨_, rfl⟩
  rw [← hgx]
  have hb1 : Below w0.heap.size w0 w1 := by rw [hw1]; exact (Below.refl _ _).alloc (Nat.le_refl _) _
  have HV1 : Hid (Blk w1 gx #[.int .i64 x.no, .int .i64 x.from_, .int .i64 x.to, .string x.bytes] 62) := by show Blk _ _ _ _; rw [hw1, hgx]; exact Blk.new _ _ _
  have hs1 : gx + 1 ≤ w1.heap.size := by rw [hw1, hgx]; simp
  have hgx0 : W.heap.size + 3 ≤ gx := by omega
  have HX1 := hid (HX0.out.later hb1)
  have HY1 := hid (HY0.out.later hb1)
  have HZ1 := hid (HZ0.out.later hb1)
  have HB1 : Hid (Below W.heap.size W w1) := HB0.out.trans (hb1.mono (by omega))
  have HCT : Hid (Cellz p 4 w1 (.slice (some ⟨b, off, none⟩) k cap) k ((s.all.take k).flatMap Lt.enc)) := by
    have := (HT.out.below HB1.out HP.out).cellz Lt.enc_length
    rw [HL.out.1] at this
    exact this
  have x0' : w1.cell? ⟨W.heap.size, 0, none⟩ = some (.slice (some ⟨b, off, none⟩) s.all.length cap) := HX1.out.cell 0
  clear hw1 hgx hb1 v0 v1 v2 v3 x0 HX0 HY0 HZ0 hs0
  go_wp2_with (at_builtin; refine wpList_pushCells elemL rfl _ _ rfl w1.heap.size _ 0 [] rfl (World.ownsRow_nil _ _ _ _) rfl HCT.out (Lt.one (s.all.take k)) ?_ ?_ ?_ ?_)
  · unfold maxLen; omega
  · omega
  intro va w2 hown2 hb2
  have HO2 : Hid (w2.ownsRow w1.heap.size 62 4 va k ((s.all.take k).flatMap Lt.enc)) := hid (by simpa using hown2)
  have HX2 := hid (HX1.out.later hb2)
  have HY2 := hid (HY1.out.later hb2)
  have HZ2 := hid (HZ1.out.later hb2)
  have HV2 := hid (HV1.out.later hb2)
  have hs2 := hb2.size
  have HB2 : Hid (Below W.heap.size W w2) := HB1.out.trans (hb2.mono (by omega))
  have x0 : w2.cell? ⟨W.heap.size, 0, none⟩ = some (.slice (some ⟨b, off, none⟩) s.all.length cap) := HX2.out.cell 0
  have FIN : Hid (∀ vv ww, ww.ownsRow w1.heap.size 62 4 vv (k + (s.all.length - (k + 1))) ((s.all.take k).flatMap Lt.enc ++ (s.all.drop (k + 1)).flatMap Lt.enc) → RowsOf (fun b => w1.heap.size ≤ b ∧ b < ww.heap.size) Lt.enc 4 ww vv s'.all) := by
    intro vv ww hown
    have e1 : s'.all = s.all.take k ++ s.all.drop (k + 1) := by rw [← HS.out]; exact Nt.erase_eq _ _
    rw [e1]
    refine RowsOf.of_owns (e := 62) Lt.enc_length ?_
    rw [List.flatMap_append, List.length_append, HL.out.1, HL.out.2]
    exact hown
  clear hown2 hb2 x0' HX1 HY1 HZ1 HV1 HCT HT
  have HDC : Hid (∀ aa cc, RowsOf p Lt.enc 4 w2 (.slice aa (s.all.length - (k + 1)) cc) (s.all.drop (k + 1)) → Cellz p 4 w2 (.slice aa (s.all.length - (k + 1)) cc) (s.all.length - (k + 1)) ((s.all.drop (k + 1)).flatMap Lt.enc)) := by
    intro aa cc hr
    have := hr.cellz Lt.enc_length
    rw [HL.out.2] at this
    exact this
  have HHW := hid (HH.out.below HB2.out HP.out)
  have hnx : s'.next = s.next := by rw [← HS.out]; rfl
  have hlo : s'.lost = s.lost := by rw [← HS.out]; rfl
  have HNX := hid hnx
  have HLO := hid hlo
  clear hnx hlo
  by_cases hcj : cap = k + 1
  · have HD := hid (HDC.out _ _ (HHW.out.dropCap (k + 1) hcj))
    go_wp2_with (at_builtin; refine wpList_pushCells elemL rfl _ _ rfl w1.heap.size _ _ _ rfl HO2.out rfl HD.out (Lt.one (s.all.drop (k + 1))) ?_ ?_ ?_ ?_)
    · unfold maxLen; omega
    · omega
    · omega
    intro vb w3 hown3 hb3
    have hr3 := FIN.out _ _ hown3
    have HR3 := hid hr3
    obtain ⟨a3, cap3, rfl, _⟩ := hr3
    have HX3 := hid (HX2.out.below hb3 (by omega))
    have HY3 := hid (HY2.out.below hb3 (by omega))
    have HZ3 := hid (HZ2.out.below hb3 (by omega))
    have HV3 := hid (HV2.out.below hb3 (by omega))
    have hs3 := hb3.size
    have HB3 : Hid (Below W.heap.size W w3) := HB2.out.trans (hb3.mono (by omega))
    have z0 : w3.cell? ⟨W.heap.size, 0, none⟩ = some (.slice (some ⟨b, off, none⟩) s.all.length cap) := HX3.out.cell 0
    have zf := HX3.out.free 0
    clear hown3 hb3 x0 HD HDC HHW HO2 FIN HX2 HY2 HZ2 HV2
    go_upto_region 8 with fail
    refine wpGen ?_
    intro w4 hw4
    have hO4 : Only [W.heap.size] w3 w4 := by rw [hw4]; exact (Only.refl _ _).setCell (by simp) _
    have HX4 : Hid (Blk w4 W.heap.size #[.slice a3 s'.all.length cap3, .int .i64 s.next, .int .i64 s.lost] 52) := by show Blk _ _ _ _; rw [hw4]; exact HX3.out.set 0 _
    have HY4 := hid (HY3.out.only hO4 (by simp))
    have HZ4 := hid (HZ3.out.only hO4 (by simp))
    have HV4 := hid (HV3.out.only hO4 (by simp; omega))
    have HO4 := hid hO4
    clear hw4 hO4 z0 zf HX3 HY3 HZ3 HV3
    have z0 : w4.cell? ⟨W.heap.size, 0, none⟩ = some (.slice a3 s'.all.length cap3) := HX4.out.cell 0
    have z1 : w4.cell? ⟨W.heap.size, 1, none⟩ = some (.int .i64 s.next) := HX4.out.cell 1
    have z2 : w4.cell? ⟨W.heap.size, 2, none⟩ = some (.int .i64 s.lost) := HX4.out.cell 2
    have t0 : w4.cell? ⟨W.heap.size + 1, 0, none⟩ = some (.slice none 0 0) := HY4.out.cell 0
    have t1 : w4.cell? ⟨W.heap.size + 1, 1, none⟩ = some (.int .i64 0) := HY4.out.cell 1
    have t2 : w4.cell? ⟨W.heap.size + 1, 2, none⟩ = some (.int .i64 0) := HY4.out.cell 2
    have tf0 := HY4.out.free 0
    have tf1 := HY4.out.free 1
    have tf2 := HY4.out.free 2
    have r0 : w4.cell? ⟨W.heap.size + 2, 0, none⟩ = some (.int .i64 0) := HZ4.out.cell 0
    have r1 : w4.cell? ⟨W.heap.size + 2, 1, none⟩ = some (.int .i64 0) := HZ4.out.cell 1
    have r2 : w4.cell? ⟨W.heap.size + 2, 2, none⟩ = some (.int .i64 0) := HZ4.out.cell 2
    have r3 : w4.cell? ⟨W.heap.size + 2, 3, none⟩ = some (.string ByteArray.empty) := HZ4.out.cell 3
    have rf0 := HZ4.out.free 0
    have rf1 := HZ4.out.free 1
    have rf2 := HZ4.out.free 2
    have rf3 := HZ4.out.free 3
    have u0 : w4.cell? ⟨gx, 0, none⟩ = some (.int .i64 x.no) := HV4.out.cell 0
    have u1 : w4.cell? ⟨gx, 1, none⟩ = some (.int .i64 x.from_) := HV4.out.cell 1
    have u2' : w4.cell? ⟨gx, 2, none⟩ = some (.int .i64 x.to) := HV4.out.cell 2
    have u3' : w4.cell? ⟨gx, 3, none⟩ = some (.string x.bytes) := HV4.out.cell 3
    have hn1 : ¬ gx = W.heap.size + 1 := by omega
    have hn2 : ¬ gx = W.heap.size + 2 := by omega
    have hn3 : ¬ W.heap.size + 1 = gx := by omega
    have hn4 : ¬ W.heap.size + 2 = gx := by omega
    have KEEP : Hid (∀ w', Only [W.heap.size + 1, W.heap.size + 2] w4 w' → w'.cell? ⟨W.heap.size, 0, none⟩ = some (.slice a3 s'.all.length cap3) ∧ w'.cell? ⟨W.heap.size, 1, none⟩ = some (.int .i64 s.next) ∧ w'.cell? ⟨W.heap.size, 2, none⟩ = some (.int .i64 s.lost) ∧ w'.cell? ⟨gx, 0, none⟩ = some (.int .i64 x.no) ∧ w'.cell? ⟨gx, 1, none⟩ = some (.int .i64 x.from_) ∧ w'.cell? ⟨gx, 2, none⟩ = some (.int .i64 x.to) ∧ w'.cell? ⟨gx, 3, none⟩ = some (.string x.bytes)) := by
      intro w' ho
      have hx' := HX4.out.only ho (by simp)
      have hv' := HV4.out.only ho (by simp; omega)
      exact ⟨hx'.cell 0, hx'.cell 1, hx'.cell 2, hv'.cell 0, hv'.cell 1, hv'.cell 2, hv'.cell 3⟩
    have hg5 := HX4.out.lt
    have hg6 := HZ4.out.lt
    have hg7 := HV4.out.lt
    go_region_held3 (fun w' => w'.cell? ⟨W.heap.size, 0, none⟩ = some (.slice a3 s'.all.length cap3) ∧ w'.cell? ⟨W.heap.size, 1, none⟩ = some (.int .i64 s.next) ∧ w'.cell? ⟨W.heap.size, 2, none⟩ = some (.int .i64 s.lost) ∧ w'.cell? ⟨gx, 0, none⟩ = some (.int .i64 x.no) ∧ w'.cell? ⟨gx, 1, none⟩ = some (.int .i64 x.from_) ∧ w'.cell? ⟨gx, 2, none⟩ = some (.int .i64 x.to) ∧ w'.cell? ⟨gx, 3, none⟩ = some (.string x.bytes)) ((refine KEEP.out _ ?_; (repeat' (first | (with_reducible exact Only.refl _ _) | (with_reducible refine Only.drew ?_) | (with_reducible refine Only.setCell ?_ (by simp) _))))) (fail)
    all_goals
      go_wp2_with fail
      refine bodyPost_ret (by simp [results, Try.results71, go_sem, t0, t1, t2, r0, r1, r2, r3]; try rfl) rfl ?_
      have FIN2 : ∀ wf, Only [W.heap.size + 1, W.heap.size + 2] w4 wf → RTQ p W s' x true (Ending.returned (.tuple #[.agg #[.slice a3 s'.all.length cap3, .int .i64 s.next, .int .i64 s.lost], .agg #[.int .i64 x.no, .int .i64 x.from_, .int .i64 x.to, .string x.bytes], .bool true])) wf := by
        intro wf hO
        have hO' : Only [W.heap.size, W.heap.size + 1, W.heap.size + 2] w3 wf := (HO4.out.mono (by simp)).trans (hO.mono (fun q hq => List.mem_cons_of_mem _ hq))
        refine ⟨a3, cap3, by rw [HNX.out, HLO.out], HB3.out.trans (hO'.below (by omega) (by simp)), ?_⟩
        exact (HR3.out.only hO' (fun b hb => ⟨hb.2, by simp; omega⟩)).imp (fun b hb => .inr ⟨by omega, Nat.lt_of_lt_of_le hb.2 hO'.size⟩)
      exact FIN2 _ (by repeat' (first | (with_reducible exact Only.refl _ _) | (with_reducible refine Only.drew ?_) | (with_reducible refine Only.setCell ?_ (by simp) _)))
  · have HD := hid (HDC.out _ _ (HHW.out.dropAt (k + 1) (by omega)))
    go_wp2_with (at_builtin; refine wpList_pushCells elemL rfl _ _ rfl w1.heap.size _ _ _ rfl HO2.out rfl HD.out (Lt.one (s.all.drop (k + 1))) ?_ ?_ ?_ ?_)
    · unfold maxLen; omega
    · omega
    · omega
    intro vb w3 hown3 hb3
    have hr3 := FIN.out _ _ hown3
    have HR3 := hid hr3
    obtain ⟨a3, cap3, rfl, _⟩ := hr3
    have HX3 := hid (HX2.out.below hb3 (by omega))
    have HY3 := hid (HY2.out.below hb3 (by omega))
    have HZ3 := hid (HZ2.out.below hb3 (by omega))
    have HV3 := hid (HV2.out.below hb3 (by omega))
    have hs3 := hb3.size
    have HB3 : Hid (Below W.heap.size W w3) := HB2.out.trans (hb3.mono (by omega))
    have z0 : w3.cell? ⟨W.heap.size, 0, none⟩ = some (.slice (some ⟨b, off, none⟩) s.all.length cap) := HX3.out.cell 0
    have zf := HX3.out.free 0
    clear hown3 hb3 x0 HD HDC HHW HO2 FIN HX2 HY2 HZ2 HV2
    go_upto_region 8 with fail
    refine wpGen ?_
    intro w4 hw4
    have hO4 : Only [W.heap.size] w3 w4 := by rw [hw4]; exact (Only.refl _ _).setCell (by simp) _
    have HX4 : Hid (Blk w4 W.heap.size #[.slice a3 s'.all.length cap3, .int .i64 s.next, .int .i64 s.lost] 52) := by show Blk _ _ _ _; rw [hw4]; exact HX3.out.set 0 _
    have HY4 := hid (HY3.out.only hO4 (by simp))
    have HZ4 := hid (HZ3.out.only hO4 (by simp))
    have HV4 := hid (HV3.out.only hO4 (by simp; omega))
    have HO4 := hid hO4
    clear hw4 hO4 z0 zf HX3 HY3 HZ3 HV3
    have z0 : w4.cell? ⟨W.heap.size, 0, none⟩ = some (.slice a3 s'.all.length cap3) := HX4.out.cell 0
    have z1 : w4.cell? ⟨W.heap.size, 1, none⟩ = some (.int .i64 s.next) := HX4.out.cell 1
    have z2 : w4.cell? ⟨W.heap.size, 2, none⟩ = some (.int .i64 s.lost) := HX4.out.cell 2
    have t0 : w4.cell? ⟨W.heap.size + 1, 0, none⟩ = some (.slice none 0 0) := HY4.out.cell 0
    have t1 : w4.cell? ⟨W.heap.size + 1, 1, none⟩ = some (.int .i64 0) := HY4.out.cell 1
    have t2 : w4.cell? ⟨W.heap.size + 1, 2, none⟩ = some (.int .i64 0) := HY4.out.cell 2
    have tf0 := HY4.out.free 0
    have tf1 := HY4.out.free 1
    have tf2 := HY4.out.free 2
    have r0 : w4.cell? ⟨W.heap.size + 2, 0, none⟩ = some (.int .i64 0) := HZ4.out.cell 0
    have r1 : w4.cell? ⟨W.heap.size + 2, 1, none⟩ = some (.int .i64 0) := HZ4.out.cell 1
    have r2 : w4.cell? ⟨W.heap.size + 2, 2, none⟩ = some (.int .i64 0) := HZ4.out.cell 2
    have r3 : w4.cell? ⟨W.heap.size + 2, 3, none⟩ = some (.string ByteArray.empty) := HZ4.out.cell 3
    have rf0 := HZ4.out.free 0
    have rf1 := HZ4.out.free 1
    have rf2 := HZ4.out.free 2
    have rf3 := HZ4.out.free 3
    have u0 : w4.cell? ⟨gx, 0, none⟩ = some (.int .i64 x.no) := HV4.out.cell 0
    have u1 : w4.cell? ⟨gx, 1, none⟩ = some (.int .i64 x.from_) := HV4.out.cell 1
    have u2' : w4.cell? ⟨gx, 2, none⟩ = some (.int .i64 x.to) := HV4.out.cell 2
    have u3' : w4.cell? ⟨gx, 3, none⟩ = some (.string x.bytes) := HV4.out.cell 3
    have hn1 : ¬ gx = W.heap.size + 1 := by omega
    have hn2 : ¬ gx = W.heap.size + 2 := by omega
    have hn3 : ¬ W.heap.size + 1 = gx := by omega
    have hn4 : ¬ W.heap.size + 2 = gx := by omega
    have KEEP : Hid (∀ w', Only [W.heap.size + 1, W.heap.size + 2] w4 w' → w'.cell? ⟨W.heap.size, 0, none⟩ = some (.slice a3 s'.all.length cap3) ∧ w'.cell? ⟨W.heap.size, 1, none⟩ = some (.int .i64 s.next) ∧ w'.cell? ⟨W.heap.size, 2, none⟩ = some (.int .i64 s.lost) ∧ w'.cell? ⟨gx, 0, none⟩ = some (.int .i64 x.no) ∧ w'.cell? ⟨gx, 1, none⟩ = some (.int .i64 x.from_) ∧ w'.cell? ⟨gx, 2, none⟩ = some (.int .i64 x.to) ∧ w'.cell? ⟨gx, 3, none⟩ = some (.string x.bytes)) := by
      intro w' ho
      have hx' := HX4.out.only ho (by simp)
      have hv' := HV4.out.only ho (by simp; omega)
      exact ⟨hx'.cell 0, hx'.cell 1, hx'.cell 2, hv'.cell 0, hv'.cell 1, hv'.cell 2, hv'.cell 3⟩
    have hg5 := HX4.out.lt
    have hg6 := HZ4.out.lt
    have hg7 := HV4.out.lt
    go_region_held3 (fun w' => w'.cell? ⟨W.heap.size, 0, none⟩ = some (.slice a3 s'.all.length cap3) ∧ w'.cell? ⟨W.heap.size, 1, none⟩ = some (.int .i64 s.next) ∧ w'.cell? ⟨W.heap.size, 2, none⟩ = some (.int .i64 s.lost) ∧ w'.cell? ⟨gx, 0, none⟩ = some (.int .i64 x.no) ∧ w'.cell? ⟨gx, 1, none⟩ = some (.int .i64 x.from_) ∧ w'.cell? ⟨gx, 2, none⟩ = some (.int .i64 x.to) ∧ w'.cell? ⟨gx, 3, none⟩ = some (.string x.bytes)) ((refine KEEP.out _ ?_; (repeat' (first | (with_reducible exact Only.refl _ _) | (with_reducible refine Only.drew ?_) | (with_reducible refine Only.setCell ?_ (by simp) _))))) (fail)
    all_goals
      go_wp2_with fail
      refine bodyPost_ret (by simp [results, Try.results71, go_sem, t0, t1, t2, r0, r1, r2, r3]; try rfl) rfl ?_
      have FIN2 : ∀ wf, Only [W.heap.size + 1, W.heap.size + 2] w4 wf → RTQ p W s' x true (Ending.returned (.tuple #[.agg #[.slice a3 s'.all.length cap3, .int .i64 s.next, .int .i64 s.lost], .agg #[.int .i64 x.no, .int .i64 x.from_, .int .i64 x.to, .string x.bytes], .bool true])) wf := by
        intro wf hO
        have hO' : Only [W.heap.size, W.heap.size + 1, W.heap.size + 2] w3 wf := (HO4.out.mono (by simp)).trans (hO.mono (fun q hq => List.mem_cons_of_mem _ hq))
        refine ⟨a3, cap3, by rw [HNX.out, HLO.out], HB3.out.trans (hO'.below (by omega) (by simp)), ?_⟩
        exact (HR3.out.only hO' (fun b hb => ⟨hb.2, by simp; omega⟩)).imp (fun b hb => .inr ⟨by omega, Nat.lt_of_lt_of_le hb.2 hO'.size⟩)
      exact FIN2 _ (by repeat' (first | (with_reducible exact Only.refl _ _) | (with_reducible refine Only.drew ?_) | (with_reducible refine Only.setCell ?_ (by simp) _)))
theorem rtake_any {p : Nat → Prop} (a : Option Addr) (cap : Nat) (s s' : Nt) (k : Int) (x : Lt) (W : World) (h : RowsOf p Lt.enc 4 W (.slice a s.all.length cap) s.all) (hp : ∀ b, p b → b < W.heap.size) (hl : s.all.length ≤ 256) (hs : s.take k = s') (hx : s.takeL k = x) :
    Calls Try.prog 71 #[.agg #[.slice a s.all.length cap, .int .i64 s.next, .int .i64 s.lost], .int .i64 k] W (RTQ p W s' x (s.has k)) := by
  by_cases hk : s.has k = true
  · obtain ⟨h0, h1⟩ := (Nt.has_iff s k).1 hk
    obtain ⟨q, rfl⟩ := Int.eq_ofNat_of_zero_le h0
    rw [show s.take q = s.off q from if_pos hk] at hs
    rw [show s.takeL q = s.at_ q from if_pos hk] at hx
    rw [hk]
    exact rtake_yes a cap s s' q x W h hp (by omega) hl hs hx
  · have hk2 : s.has k = false := by simpa using hk
    rw [show s.take k = s from if_neg hk] at hs
    rw [show s.takeL k = Lt.zero from if_neg hk] at hx
    subst hs hx
    rw [hk2]
    exact rtake_no a cap s k W h hp hk2
set_option maxRecDepth 100000 in
set_option maxHeartbeats 1000000 in
theorem rlose_any {p : Nat → Prop} (a : Option Addr) (cap : Nat) (s s' : Nt) (k : Int) (W : World) (h : RowsOf p Lt.enc 4 W (.slice a s.all.length cap) s.all) (hp : ∀ b, p b → b < W.heap.size) (hl : s.all.length ≤ 256) (hlo : s.lost ≤ 1099511627776) (hs : s.lose k = s') :
    Calls Try.prog 72 #[.agg #[.slice a s.all.length cap, .int .i64 s.next, .int .i64 s.lost], .int .i64 k] W (RQ p W s' (s.has k)) := by
  obtain ⟨s1, h1⟩ : ∃ s1, s.take k = s1 := ⟨_, rfl⟩
  obtain ⟨x, hx⟩ : ∃ x, s.takeL k = x := ⟨_, rfl⟩
  have hl1 : s1.lost = s.lost := by rw [← h1]; unfold Nt.take; split <;> rfl
  have hs1 : s' = if s.has k = true then s1.lose1 else s1 := by
    rw [← hs, ← h1]
    unfold Nt.lose Nt.take
    split <;> rfl
  have hlo1 : s1.lost ≤ 1099511627776 := by omega
  have hB0 : Below W.heap.size W ((W.alloc (.cells #[.slice a s.all.length cap, .int .i64 s.next, .int .i64 s.lost] 52)).alloc (.cells #[.slice none 0 0, .int .i64 0, .int .i64 0] 52)) := by go_grown
  have HT := hid (rtake_any a cap s s1 k x _ (h.below hB0 hp) (fun b hb => Nat.lt_of_lt_of_le (hp b hb) hB0.size) hl h1 hx)
  have HB0 := hid hB0
  have HP := hid hp
  have HY0 : Hid (Blk ((W.alloc (.cells #[.slice a s.all.length cap, .int .i64 s.next, .int .i64 s.lost] 52)).alloc (.cells #[.slice none 0 0, .int .i64 0, .int .i64 0] 52)) (W.heap.size + 1) #[.slice none 0 0, .int .i64 0, .int .i64 0] 52) := Blk.new' _ _ _ (by simp)
  have HS1 := hid hs1
  obtain ⟨r, hr⟩ : ∃ r, s.has k = r := ⟨_, rfl⟩
  rw [hr] at HT HS1 ⊢
  clear h hp hs h1 hx hl1 hs1 hB0 hr
  go_enter Try.func72, Try.ntmps72
  go_wp2_with fail
  refine HT.out.mono ?_
  rintro e w1 ⟨a1, cap1, rfl, hb1, hr1⟩
  have HB1 : Hid (Below W.heap.size W w1) := HB0.out.trans (hb1.mono HB0.out.size)
  have hY1 := HY0.out.later hb1
  have hw1 : W.heap.size + 2 ≤ w1.heap.size := by have := hb1.size; simpa using this
  have HY1 := hid hY1
  clear hb1 hY1
  go_upto_region 2 with fail
  refine wpGen ?_
  intro w2 hw2
  obtain ⟨gx, hgx⟩ : ∃ g, g = w1.heap.size := ⟨_, rfl⟩
  rw [← hgx]
  have hb2 : Below w1.heap.size w1 w2 := by rw [hw2]; go_grown
  have HX2 : Hid (Blk w2 gx #[.slice a1 s1.all.length cap1, .int .i64 s1.next, .int .i64 s1.lost] 52) := by show Blk _ _ _ _; rw [hw2, hgx]; exact (Blk.new _ _ _).alloc _
  have hgx1 : W.heap.size + 2 ≤ gx := by omega
  have hgxe : w1.heap.size ≤ gx := by omega
  have HY2 := hid (HY1.out.later hb2)
  have HB2 := hid hb2
  have hs2 := hb2.size
  clear hw2 hgx hb2 HY1
  have x0 : w2.cell? ⟨gx, 0, none⟩ = some (.slice a1 s1.all.length cap1) := HX2.out.cell 0
  have x1 : w2.cell? ⟨gx, 1, none⟩ = some (.int .i64 s1.next) := HX2.out.cell 1
  have x2 : w2.cell? ⟨gx, 2, none⟩ = some (.int .i64 s1.lost) := HX2.out.cell 2
  have xf := HX2.out.free 2
  have t0 : w2.cell? ⟨W.heap.size + 1, 0, none⟩ = some (.slice none 0 0) := HY2.out.cell 0
  have t1 : w2.cell? ⟨W.heap.size + 1, 1, none⟩ = some (.int .i64 0) := HY2.out.cell 1
  have t2 : w2.cell? ⟨W.heap.size + 1, 2, none⟩ = some (.int .i64 0) := HY2.out.cell 2
  have tf0 := HY2.out.free 0
  have tf1 := HY2.out.free 1
  have tf2 := HY2.out.free 2
  have hn1 : ¬ gx = W.heap.size + 1 := by omega
  have hn2 : ¬ W.heap.size + 1 = gx := by omega
  have hg1 := HX2.out.lt
  have hg2 := HY2.out.lt
  have FIN : Hid (∀ wf, Only [W.heap.size + 1, gx] w2 wf → Below W.heap.size W wf ∧ RowsOf (fun b => p b ∨ (W.heap.size ≤ b ∧ b < wf.heap.size)) Lt.enc 4 wf (.slice a1 s1.all.length cap1) s1.all) := by
    intro wf ho
    refine ⟨(HB1.out.trans (HB2.out.mono (by omega))).trans (ho.below (by omega) (by simp; omega)), ?_⟩
    refine ((hr1.out.below HB2.out (fun b hb => ?_)).only ho (fun b hb => ?_)).imp (fun b hb => ?_)
    · rcases hb with hb | hb
      · have := HP.out b hb; omega
      · exact hb.2
    · rcases hb with hb | hb
      · have := HP.out b hb; exact ⟨by omega, by simp; omega⟩
      · have h1 := hb.1; simp at h1; exact ⟨by omega, by simp; omega⟩
    · have hsz := ho.size
      rcases hb with hb | hb
      · exact .inl hb
      · have h1 := hb.1; simp at h1; exact .inr ⟨by omega, by omega⟩
  clear hr1
  cases r
  · have hse : s' = s1 := by rw [HS1.out]; rfl
    subst hse
    go_wp2_with fail
    refine bodyPost_ret (by simp [results, Try.results72, go_sem, t0, t1, t2]; try rfl) rfl ?_
    have FIN2 : ∀ wf, Only [W.heap.size + 1, gx] w2 wf → RQ p W s' false (Ending.returned (.tuple #[.agg #[.slice a1 s'.all.length cap1, .int .i64 s'.next, .int .i64 s'.lost], .bool false])) wf := fun wf ho => ⟨a1, cap1, rfl, (FIN.out wf ho).1, (FIN.out wf ho).2⟩
    exact FIN2 _ (by repeat' (first | (with_reducible exact Only.refl _ _) | (with_reducible refine Only.drew ?_) | (with_reducible refine Only.setCell ?_ (by simp) _)))
  · have hse : s' = s1.lose1 := by rw [HS1.out]; rfl
    subst hse
    have hfin : Hid (min ((s1.lost : Int) + 1) 1099511627776 = ((s1.lose1.lost : Nat) : Int)) := by show _ = ((min (s1.lost + 1) 1099511627776 : Nat) : Int); omega
    go_wp2_with fail
    refine bodyPost_ret (by simp [results, Try.results72, go_sem, t0, t1, t2]; try rfl) rfl ?_
    have FIN2 : ∀ wf, Only [W.heap.size + 1, gx] w2 wf → RQ p W s1.lose1 true (Ending.returned (.tuple #[.agg #[.slice a1 s1.all.length cap1, .int .i64 s1.next, .int .i64 (min ((s1.lost : Int) + 1) 1099511627776)], .bool true])) wf := fun wf ho => ⟨a1, cap1, by rw [hfin.out]; rfl, (FIN.out wf ho).1, (FIN.out wf ho).2⟩
    exact FIN2 _ (by repeat' (first | (with_reducible exact Only.refl _ _) | (with_reducible refine Only.drew ?_) | (with_reducible refine Only.setCell ?_ (by simp) _)))
set_option maxRecDepth 100000 in
set_option maxHeartbeats 1000000 in
theorem rcopy_any {p : Nat → Prop} (a : Option Addr) (cap : Nat) (s s' : Nt) (k : Int) (r : Bool) (W : World) (h : RowsOf p Lt.enc 4 W (.slice a s.all.length cap) s.all) (hp : ∀ b, p b → b < W.heap.size) (hl : s.all.length ≤ 256) (hn : s.next ≤ 100000) (hlo : s.lost ≤ 1099511627776) (hr : s.copyB k = r) (hs : s.copy k = s') :
    Calls Try.prog 73 #[.agg #[.slice a s.all.length cap, .int .i64 s.next, .int .i64 s.lost], .int .i64 k] W (RQ p W s' r) := by
  by_cases hk : s.has k = true
  · obtain ⟨h0, h1⟩ := (Nt.has_iff s k).1 hk
    obtain ⟨q, rfl⟩ := Int.eq_ofNat_of_zero_le h0
    have hq : q < s.all.length := by omega
    have e1 : s.copyB q = s.sendB := by unfold Nt.copyB; rw [hk]; rfl
    have e2 : s.copy q = s.send (s.at_ q).from_ (s.at_ q).to (s.at_ q).bytes := if_pos hk
    rw [e1] at hr
    rw [e2] at hs
    have hat : s.at_ q = s.all[q] := by show s.all.getD _ _ = _; simp [List.getD, hq]
    obtain ⟨x, hx⟩ : ∃ x, x = s.at_ q := ⟨_, rfl⟩
    rw [← hx] at hs
    rw [hat] at hx
    have hlc : s.all.length ≤ cap := by obtain ⟨_, _, e, h2, _⟩ := h; cases e; exact h2
    obtain ⟨b, off, ha, hpb, hc⟩ : ∃ b off, a = some ⟨b, off, none⟩ ∧ p b ∧ ∀ i (hi : i < s.all.length) j u, (Lt.enc s.all[i])[j]? = some u → W.cell? ⟨b, off + i * 4 + j, none⟩ = some u := by
      obtain ⟨_, _, e, _, _, _, h5⟩ := h
      cases e
      exact h5.resolve_left (by intro e; rw [e] at hq; simp at hq)
    subst ha
    obtain ⟨y0, y1, y2, y3⟩ := Lt.cells (hc q hq)
    rw [← hx] at y0 y1 y2 y3
    have hbl := hp b hpb
    have j1 : ¬ (q : Int) < 0 := by omega
    have j2 : ¬ (s.all.length : Int) ≤ (q : Int) := by omega
    have HH := hid h
    have HP := hid hp
    have HR := hid hr
    have HS := hid hs
    clear h hp hc hat hx hs hr e1 e2 hk h0 h1
    go_enter Try.func73, Try.ntmps73
    go_upto_region 3 with fail
    refine wpGen ?_
    intro w0 hw0
    have HB0 : Hid (Below W.heap.size W w0) := by show Below _ _ _; rw [hw0]; go_grown
    have HX0 : Hid (Blk w0 W.heap.size #[.slice (some ⟨b, off, none⟩) s.all.length cap, .int .i64 s.next, .int .i64 s.lost] 52) := by show Blk _ _ _ _; rw [hw0]; exact (Blk.new _ _ _).alloc _
    have HY0 : Hid (Blk w0 (W.heap.size + 1) #[.slice none 0 0, .int .i64 0, .int .i64 0] 52) := by show Blk _ _ _ _; rw [hw0]; exact Blk.new' _ _ _ (by simp)
    have hs0 : W.heap.size + 2 ≤ w0.heap.size := by rw [hw0]; simp
    clear hw0
    have HRS := hid (rsend_any (some ⟨b, off, none⟩) cap s s' x.from_ x.to x.bytes r w0.drew (HH.out.below HB0.out.drew HP.out) (fun b hb => by have := HP.out b hb; show _ < w0.heap.size; omega) hn hlo HR.out HS.out)
    have KEEP : Hid (∀ w', Below w0.heap.size w0 w' → w'.cell? ⟨W.heap.size, 0, none⟩ = some (.slice (some ⟨b, off, none⟩) s.all.length cap) ∧ w'.cell? ⟨W.heap.size, 1, none⟩ = some (.int .i64 s.next) ∧ w'.cell? ⟨W.heap.size, 2, none⟩ = some (.int .i64 s.lost) ∧ w'.cell? ⟨b, off + q * 4 + 1, none⟩ = some (.int .i64 x.from_) ∧ w'.cell? ⟨b, off + q * 4 + 2, none⟩ = some (.int .i64 x.to) ∧ w'.cell? ⟨b, off + q * 4 + 3, none⟩ = some (.string x.bytes)) := by
      intro w' hb
      have hx' := HX0.out.later hb
      have hb' := HB0.out.trans (hb.mono (by omega))
      exact ⟨hx'.cell 0, hx'.cell 1, hx'.cell 2, (hb'.cell hbl).trans y1, (hb'.cell hbl).trans y2, (hb'.cell hbl).trans y3⟩
    have k0 := (KEEP.out w0 (Below.refl _ _))
    obtain ⟨k0, k1, k2, k3, k4, k5⟩ := k0
    have hbl0 : b < w0.heap.size := by omega
    clear y0 y1 y2 y3
    go_region_held3 (fun w' => w'.cell? ⟨W.heap.size, 0, none⟩ = some (.slice (some ⟨b, off, none⟩) s.all.length cap) ∧ w'.cell? ⟨W.heap.size, 1, none⟩ = some (.int .i64 s.next) ∧ w'.cell? ⟨W.heap.size, 2, none⟩ = some (.int .i64 s.lost) ∧ w'.cell? ⟨b, off + q * 4 + 1, none⟩ = some (.int .i64 x.from_) ∧ w'.cell? ⟨b, off + q * 4 + 2, none⟩ = some (.int .i64 x.to) ∧ w'.cell? ⟨b, off + q * 4 + 3, none⟩ = some (.string x.bytes))
      (first | exact KEEP.out _ (Below.refl _ _).drew | exact KEEP.out _ hc1 | exact KEEP2.out _ (by repeat' (first | (with_reducible exact Only.refl _ _) | (with_reducible refine Only.drew ?_) | (with_reducible refine Only.setCell ?_ (by simp) _))))
      ((go_at_call 70; refine HRS.out.mono ?_; rintro e w1 ⟨a1, cap1, rfl, hb1, hr1⟩; have hc1 : Below w0.heap.size w0 w1 := drewL hb1; have hy1 := HY0.out.later hc1; have t0 : w1.cell? ⟨W.heap.size + 1, 0, none⟩ = some (.slice none 0 0) := hy1.cell 0; have t1 : w1.cell? ⟨W.heap.size + 1, 1, none⟩ = some (.int .i64 0) := hy1.cell 1; have t2 : w1.cell? ⟨W.heap.size + 1, 2, none⟩ = some (.int .i64 0) := hy1.cell 2; have tf0 := hy1.free 0; have tf1 := hy1.free 1; have tf2 := hy1.free 2; have KEEP2 : Hid (∀ w', Only [W.heap.size + 1] w1 w' → w'.cell? ⟨W.heap.size, 0, none⟩ = some (.slice (some ⟨b, off, none⟩) s.all.length cap) ∧ w'.cell? ⟨W.heap.size, 1, none⟩ = some (.int .i64 s.next) ∧ w'.cell? ⟨W.heap.size, 2, none⟩ = some (.int .i64 s.lost) ∧ w'.cell? ⟨b, off + q * 4 + 1, none⟩ = some (.int .i64 x.from_) ∧ w'.cell? ⟨b, off + q * 4 + 2, none⟩ = some (.int .i64 x.to) ∧ w'.cell? ⟨b, off + q * 4 + 3, none⟩ = some (.string x.bytes)) := fun w' ho => by
            have h9 := KEEP.out w1 hc1
            have hsz := hc1.size
            have e9 : ∀ g o, g < W.heap.size + 1 → w'.cell? ⟨g, o, none⟩ = w1.cell? ⟨g, o, none⟩ := fun g o hg => ho.cell (p := ⟨g, o, none⟩) (by show g < _; omega) (by simp; omega)
            refine ⟨(e9 _ _ (by omega)).trans h9.1, (e9 _ _ (by omega)).trans h9.2.1, (e9 _ _ (by omega)).trans h9.2.2.1, (e9 _ _ (by omega)).trans h9.2.2.2.1, (e9 _ _ (by omega)).trans h9.2.2.2.2.1, (e9 _ _ (by omega)).trans h9.2.2.2.2.2⟩))
    all_goals
      go_wp2_with fail
      refine bodyPost_ret (by simp [results, Try.results73, go_sem, t0, t1, t2]; try rfl) rfl ?_
      have FIN2 : ∀ wf, Only [W.heap.size + 1] w1 wf → RQ p W s' r (Ending.returned (.tuple #[.agg #[.slice a1 s'.all.length cap1, .int .i64 s'.next, .int .i64 s'.lost], .bool r])) wf := by
        intro wf ho
        have hsz := ho.size
        have hc2 := hc1.size
        refine ⟨a1, cap1, rfl, (HB0.out.trans (hc1.mono (by omega))).trans (ho.below (by omega) (by simp)), (hr1.out.only ho (fun b hb => ?_)).imp (fun b hb => ?_)⟩
        · rcases hb with hb | hb
          · have := HP.out b hb; exact ⟨by omega, by simp; omega⟩
          · have h1 : w0.heap.size ≤ b := hb.1; exact ⟨hb.2, by simp; omega⟩
        · rcases hb with hb | hb
          · exact .inl hb
          · have h1 : w0.heap.size ≤ b := hb.1; exact .inr ⟨by omega, by omega⟩
      exact FIN2 _ (by repeat' (first | (with_reducible exact Only.refl _ _) | (with_reducible refine Only.drew ?_) | (with_reducible refine Only.setCell ?_ (by simp) _)))
  · have hk2 : s.has k = false := by simpa using hk
    have e1 : s.copyB k = false := by unfold Nt.copyB; rw [hk2]; rfl
    have e2 : s.copy k = s := if_neg hk
    rw [e1] at hr
    rw [e2] at hs
    subst hr hs
    have hh : ¬ (0 ≤ k ∧ k < s.all.length) := by rw [← Nt.has_iff]; simp [hk2]
    have HH := hid h
    have HP := hid hp
    clear hp h hk hk2 e1 e2
    by_cases h1 : k < 0
    · go_enter Try.func73, Try.ntmps73
      go_wp2_with fail
      refine bodyPost_ret (by simp [results, Try.results73, go_sem]; try rfl) rfl ?_
      exact ⟨a, cap, rfl, by go_grown, (HH.out.below (by go_grown) HP.out).imp (fun b hb => .inl hb)⟩
    · have h2 : (s.all.length : Int) ≤ k := by omega
      clear hh
      go_enter Try.func73, Try.ntmps73
      go_wp2_with fail
      refine bodyPost_ret (by simp [results, Try.results73, go_sem]; try rfl) rfl ?_
      exact ⟨a, cap, rfl, by go_grown, (HH.out.below (by go_grown) HP.out).imp (fun b hb => .inl hb)⟩
end C28
end Go.Proofs.Ythmopkaecbebpaa
