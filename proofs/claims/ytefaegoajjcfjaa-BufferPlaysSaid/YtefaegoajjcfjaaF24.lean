/- Walks of layer 24 (opens): one more; no condition. -/
import Derived.Test.YtefaegoajjcfjaaE24
import Derived.Deep.RegionLawGrows
namespace Go.Peri
open Go.RowKit
theorem addr_add (b o j : Nat) : (⟨b, o, none⟩ : Addr).add j = ⟨b, o + j, none⟩ := by
  unfold Addr.add; split
  · rename_i hz; rw [hz]; rfl
  · rfl
/-- 'append(l[:n:n], x)': a new row, where x has just been laid in a block of its own. -/
theorem step_grow {P : Program} {t e : TypeId} {size bytes : Nat} (E : Elem P t e size bytes) {ops : Array Oper} {o : Oper} {a : Act} {Q : Exit → Act → World → Prop} {K : Act → World → Prop} {X : Prop} {w w0 : World} (hgd : o.guard = none) (s x : Operand)
    (ho : o.op = .call { callee := .builtin .append, args := #[s, x], argTypes := #[t, t] }) {p : Nat → Prop} (ao : Option Addr) (n cap : Nat) (xs news : List Value) (hs : a.eval s = .slice ao n n) (hv : Cellz p size w0 (.slice ao n cap) n xs) (hp : ∀ b, p b → b < w0.heap.size) {T : TypeId}
    (hw : w = w0.alloc (.cells news.toArray T)) (hx : a.eval x = .slice (some ⟨w0.heap.size, 0, none⟩) 1 1) (hl : news.length = size) (h1 : ∀ u ∈ news, u.oneCell' = true)
    (h63 : n + 1 ≤ maxLen) (hbytes : (n + 1) * bytes ≤ 140737488355328)
    (h : ∀ v' w', w'.ownsRow w0.heap.size e size v' (n + 1) (xs ++ news) → Below w0.heap.size w0 w' → K (a.put o.dst v') w') :
    if Region.wanted o (yielded ops a.tmps) = true then Oper.wp P o a w K Q else X := by
  obtain ⟨hlx, ao', cap', e0, hnc, hcm, hnone, hcell⟩ := hv
  cases e0
  subst hw
  obtain ⟨i, z, hi, hz, hsz, hby, hzs⟩ := E.info
  by_cases hn : n = 0
  · subst hn
    have hxs : xs = [] := List.length_eq_zero_iff.1 (by simpa using hlx)
    subst hxs
    refine step_append_grows hgd s x t ho e i z size bytes E.under hi hz hsz hby hzs E.pos ao 0 0 [] hs (fun _ => ⟨rfl, rfl⟩) (by simp) (fun b _ j u hj => by simp at hj) ⟨w0.heap.size, 0, none⟩ 1 1 news hx (by omega) ?_ h1 (by omega) h63 hbytes ?_
    · intro j u hj
      rw [addr_add, Nat.zero_add, World.cell?_alloc_new]
      simpa using hj
    · intro v' w' hown hgrow
      refine h v' w' ?_ ?_
      · obtain ⟨g1, g2⟩ := hown
        refine ⟨g1, g2.imp id ?_⟩
        rintro ⟨g, c, cur, q1, q2, q3⟩
        exact ⟨g, c, cur, q1, Nat.le_trans (by simp) q2, q3⟩
      · exact ((Below.refl _ w0).alloc (Nat.le_refl _) _).grown hgrow (by simp) (by simp)
  · obtain ⟨b, off, rfl, hpb, hc⟩ := hcell.resolve_left hn
    have hbl := hp b hpb
    refine step_append_grows hgd s x t ho e i z size bytes E.under hi hz hsz hby hzs E.pos _ n n xs hs (fun e => by cases e) hlx (fun b' hb' j u hj => ?_) ⟨w0.heap.size, 0, none⟩ 1 1 news hx (by omega) ?_ h1 (by omega) h63 hbytes ?_
    · cases hb'
      have hj' := (List.getElem?_eq_some_iff.1 hj).1
      rw [addr_add, ((Below.refl w0.heap.size w0).alloc (Nat.le_refl _) _).cell (p := ⟨b, off + j, none⟩) hbl, hc j hj', List.getD, hj]
      rfl
    · intro j u hj
      rw [addr_add, Nat.zero_add, World.cell?_alloc_new]
      simpa using hj
    · intro v' w' hown hgrow
      refine h v' w' ?_ ?_
      · obtain ⟨g1, g2⟩ := hown
        refine ⟨g1, g2.imp id ?_⟩
        rintro ⟨g, c, cur, q1, q2, q3⟩
        exact ⟨g, c, cur, q1, Nat.le_trans (by simp) q2, q3⟩
      · exact ((Below.refl _ w0).alloc (Nat.le_refl _) _).grown hgrow (by simp) (by simp)
end Go.Peri
namespace Go.Proofs.Ytefaegoajjcfjaa
open Go.RowKit Go.Peri
namespace C24
theorem elem93 : Elem Try.prog 93 129 12 104 := Elem.mk' (z := .agg #[.int .i64 0, .int .u64 0, .int .u64 0, .int .u64 0, .int .u64 0, .string ByteArray.empty, .int .i64 0, .int .i64 0, .int .i64 0, .bool false, .int .i64 0, .int .i64 0]) Try.underlying93 (by kernel_rfl) rfl (by decide)
def startR (l : List Opn) (no : Int) (s : Sp) : List Opn × Int := if ix l no < l.length then ([], 10) else if 256 ≤ l.length then ([], 8) else (l ++ [⟨no, s⟩], 0)
/-- A slice in new memory that reads as a list, and an error. -/
def NewQ (w : World) (l : List Opn) (r : Value → Value) (v : Value) (w' : World) : Prop := ∃ u, v = r u ∧ Below w.heap.size w w' ∧ RowsOf (fun b => w.heap.size ≤ b ∧ b < w'.heap.size) Opn.enc 12 w' u l
theorem snoc_cells (l : List Opn) (o : Opn) : l.flatMap Opn.enc ++ o.enc = (l ++ [o]).flatMap Opn.enc := by simp

set_option maxRecDepth 100000 in
set_option maxHeartbeats 4000000 in
theorem start_any {p : Nat → Prop} (v : Value) (l : List Opn) (no : Int) (s : Sp) (W : World) (h : RowsOf p Opn.enc 12 W v l) (hp : ∀ b, p b → b < W.heap.size) (hl : l.length ≤ 1000000000) (r : List Opn × Int) (hr : startR l no s = r) :
    Calls Try.prog 58 #[v, .int .i64 no, spv s] W (Ret (NewQ W r.1 (fun u => .tuple #[u, .int .i64 r.2]))) := by
  have HAT := hid (fun r hr W' hb => at_any v l no r W' (h.below (B := W.heap.size) hb hp) (fun b hb' => Nat.lt_of_lt_of_le (hp b hb') (hb.size)) (by omega) hr)
  have HV := hid h
  have HP := hid hp
  have HR := hid hr
  obtain ⟨a, cap, rfl, hlc, hcm, _⟩ := h
  unfold maxLen at hcm
  clear hp hr
  unfold spv
  by_cases hx : ix l no < l.length
  · have e : Hid (startR l no s = ([], 10)) := if_pos hx
    have HAT2 := hid (HAT.out _ (atR_in hx))
    clear HAT
    generalize ix l no = k at hx HAT2
    go_enter Try.func58, Try.ntmps58
    go_wp2_with fail
    refine (HAT2.out _ ((Below.refl _ W).alloc (Nat.le_refl _) _)).mono ?_
    rintro e1 w1 ⟨rfl, hb1⟩
    have HB1 : Hid (Below W.heap.size W w1) := ((Below.refl _ W).alloc (Nat.le_refl _) _).trans (hb1.mono (by simp))
    clear hb1
    go_wp2_with fail
    go_ret2
    refine ⟨_, rfl, .slice none 0 0, ?_, HB1.out, ?_⟩
    · rw [← HR.out, e.out]; rfl
    · rw [← HR.out, e.out]; exact RowsOf.nil _ _ _ _
  have HAT2 := hid (HAT.out _ (atR_out hx))
  have HX := hid hx
  clear HAT hx
  by_cases h256 : 256 ≤ l.length
  · have e : Hid (startR l no s = ([], 8)) := by show _ = _; unfold startR; rw [if_neg HX.out, if_pos h256]
    have h256' : (256 : Int) ≤ (l.length : Int) := by omega
    go_enter Try.func58, Try.ntmps58
    go_wp2_with fail
    refine (HAT2.out _ ((Below.refl _ W).alloc (Nat.le_refl _) _)).mono ?_
    rintro e1 w1 ⟨rfl, hb1⟩
    have HB1 : Hid (Below W.heap.size W w1) := ((Below.refl _ W).alloc (Nat.le_refl _) _).trans (hb1.mono (by simp))
    clear hb1
    go_wp2_with fail
    go_ret2
    refine ⟨_, rfl, .slice none 0 0, ?_, HB1.out, ?_⟩
    · rw [← HR.out, e.out]; rfl
    · rw [← HR.out, e.out]; exact RowsOf.nil _ _ _ _
  · have e : Hid (startR l no s = (l ++ [⟨no, s⟩], 0)) := by show _ = _; unfold startR; rw [if_neg HX.out, if_neg h256]
    have h256' : ¬ (256 : Int) ≤ (l.length : Int) := by omega
    go_enter Try.func58, Try.ntmps58
    go_wp2_with fail
    refine (HAT2.out _ ((Below.refl _ W).alloc (Nat.le_refl _) _)).mono ?_
    rintro e1 w1 ⟨rfl, hb1⟩
    have HB1 : Hid (Below W.heap.size W w1) := ((Below.refl _ W).alloc (Nat.le_refl _) _).trans (hb1.mono (by simp))
    obtain ⟨z0, z1, z2, z3, z4, z5, z6, z7, z8, z9, z10, zf⟩ := blk11 ((Blk.new W _ _).later hb1)
    have hg : W.heap.size < w1.heap.size := by have := hb1.size; simp at this; omega
    have HV1 : Hid (Cellz p 12 w1.drew (.slice a l.length cap) l.length (l.flatMap Opn.enc)) := ((HV.out.below HB1.out HP.out).cellz Opn.enc_length).below (B := w1.heap.size) (Below.refl _ _).drew (fun b hb => Nat.lt_of_lt_of_le (HP.out b hb) HB1.out.size)
    have HPD : Hid (∀ b, p b → b < w1.drew.heap.size) := fun b hb => Nat.lt_of_lt_of_le (HP.out b hb) HB1.out.size
    have l63 : l.length + 1 ≤ 9223372036854775807 := by omega
    have lby : (l.length + 1) * 104 ≤ 140737488355328 := by omega
    clear hb1
    go_wp2_with fail
    go_region_held3 (fun w' => w'.cell? ⟨W.heap.size, 0, none⟩ = some (.int .u64 s.hi) ∧ w'.cell? ⟨W.heap.size, 1, none⟩ = some (.int .u64 s.lo) ∧ w'.cell? ⟨W.heap.size, 2, none⟩ = some (.int .u64 s.id) ∧ w'.cell? ⟨W.heap.size, 3, none⟩ = some (.int .u64 s.up) ∧ w'.cell? ⟨W.heap.size, 4, none⟩ = some (.string s.name) ∧ w'.cell? ⟨W.heap.size, 5, none⟩ = some (.int .i64 s.status) ∧ w'.cell? ⟨W.heap.size, 6, none⟩ = some (.int .i64 s.seq) ∧ w'.cell? ⟨W.heap.size, 7, none⟩ = some (.int .i64 s.kids) ∧ w'.cell? ⟨W.heap.size, 8, none⟩ = some (.bool s.shadow) ∧ w'.cell? ⟨W.heap.size, 9, none⟩ = some (.int .i64 s.start) ∧ w'.cell? ⟨W.heap.size, 10, none⟩ = some (.int .i64 s.stop))
      (first
        | go_keep
        | exact ⟨(hbel.cell (p := ⟨W.heap.size, 0, none⟩) hg).trans z0, (hbel.cell (p := ⟨W.heap.size, 1, none⟩) hg).trans z1, (hbel.cell (p := ⟨W.heap.size, 2, none⟩) hg).trans z2, (hbel.cell (p := ⟨W.heap.size, 3, none⟩) hg).trans z3, (hbel.cell (p := ⟨W.heap.size, 4, none⟩) hg).trans z4, (hbel.cell (p := ⟨W.heap.size, 5, none⟩) hg).trans z5, (hbel.cell (p := ⟨W.heap.size, 6, none⟩) hg).trans z6, (hbel.cell (p := ⟨W.heap.size, 7, none⟩) hg).trans z7, (hbel.cell (p := ⟨W.heap.size, 8, none⟩) hg).trans z8, (hbel.cell (p := ⟨W.heap.size, 9, none⟩) hg).trans z9, (hbel.cell (p := ⟨W.heap.size, 10, none⟩) hg).trans z10⟩)
      ((refine step_grow elem93 rfl _ _ rfl a l.length cap _ (Opn.enc ⟨no, s⟩) (by rfl) HV1.out HPD.out rfl (by rfl) rfl (by simp [Opn.enc, Sp.enc, Value.oneCell']) l63 lby ?_; intro v1 w2 hown1 hbel))
    have HO1 : Hid (w2.ownsRow w1.drew.heap.size 129 12 v1 (l ++ [(⟨no, s⟩ : Opn)]).length ((l ++ [(⟨no, s⟩ : Opn)]).flatMap Opn.enc)) := by
      show World.ownsRow _ _ _ _ _ _ _
      rw [← snoc_cells, List.length_append]; exact hown1
    have HB2 : Hid (Below W.heap.size W w2) := (HB1.out.drew).trans (hbel.mono HB1.out.size)
    clear hown1 hbel
    go_wp2_with fail
    go_ret2
    refine ⟨_, rfl, v1, ?_, HB2.out, ?_⟩
    · rw [← HR.out, e.out]; rfl
    · rw [← HR.out, e.out]
      exact (RowsOf.of_owns Opn.enc_length HO1.out).imp fun b hb => ⟨Nat.le_trans HB1.out.size hb.1, hb.2⟩

theorem one_cells (l : List Opn) : ∀ u ∈ l.flatMap Opn.enc, u.oneCell' = true := by
  intro u hu
  obtain ⟨o, _, ho⟩ := List.mem_flatMap.1 hu
  simp only [Opn.enc, Sp.enc, List.mem_cons, List.not_mem_nil, or_false] at ho
  rcases ho with rfl | rfl | rfl | rfl | rfl | rfl | rfl | rfl | rfl | rfl | rfl | rfl <;> rfl

set_option maxRecDepth 100000 in
set_option maxHeartbeats 4000000 in
theorem rstart_any {p : Nat → Prop} (v : Value) (l : List Opn) (no : Int) (s : Sp) (W : World) (h : RowsOf p Opn.enc 12 W v l) (hp : ∀ b, p b → b < W.heap.size) (hl : l.length ≤ 1000000000) (r : List Opn × Int) (hr : startR l no s = r) :
    Calls Try.prog 59 #[v, .int .i64 no, spv s] W (Ret (NewQ W r.1 (fun u => .tuple #[u, .int .i64 r.2]))) := by
  have HAT := hid (fun r hr W' hb => rat_any v l no r W' (h.below (B := W.heap.size) hb hp) (by omega) hr)
  have HV := hid h
  have HP := hid hp
  have HR := hid hr
  obtain ⟨a, cap, rfl, hlc, hcm, _⟩ := h
  unfold maxLen at hcm
  clear hp hr
  unfold spv
  by_cases hx : ix l no < l.length
  · have e : Hid (startR l no s = ([], 10)) := if_pos hx
    have HAT2 := hid (HAT.out _ (atR_in hx))
    clear HAT
    generalize ix l no = k at hx HAT2
    go_enter Try.func59, Try.ntmps59
    go_wp2_with fail
    refine (HAT2.out _ ((Below.refl _ W).alloc (Nat.le_refl _) _)).mono ?_
    rintro e1 w1 ⟨rfl, hb1⟩
    have HB1 : Hid (Below W.heap.size W w1) := by subst hb1; exact ((Below.refl _ W).alloc (Nat.le_refl _) _)
    clear hb1
    go_wp2_with fail
    go_ret2
    refine ⟨_, rfl, .slice none 0 0, ?_, HB1.out, ?_⟩
    · rw [← HR.out, e.out]; rfl
    · rw [← HR.out, e.out]; exact RowsOf.nil _ _ _ _
  have HAT2 := hid (HAT.out _ (atR_out hx))
  have HX := hid hx
  clear HAT hx
  by_cases h256 : 256 ≤ l.length
  · have e : Hid (startR l no s = ([], 8)) := by show _ = _; unfold startR; rw [if_neg HX.out, if_pos h256]
    have h256' : (256 : Int) ≤ (l.length : Int) := by omega
    go_enter Try.func59, Try.ntmps59
    go_wp2_with fail
    refine (HAT2.out _ ((Below.refl _ W).alloc (Nat.le_refl _) _)).mono ?_
    rintro e1 w1 ⟨rfl, hb1⟩
    have HB1 : Hid (Below W.heap.size W w1) := by subst hb1; exact ((Below.refl _ W).alloc (Nat.le_refl _) _)
    clear hb1
    go_wp2_with fail
    go_ret2
    refine ⟨_, rfl, .slice none 0 0, ?_, HB1.out, ?_⟩
    · rw [← HR.out, e.out]; rfl
    · rw [← HR.out, e.out]; exact RowsOf.nil _ _ _ _
  · have e : Hid (startR l no s = (l ++ [⟨no, s⟩], 0)) := by show _ = _; unfold startR; rw [if_neg HX.out, if_neg h256]
    have h256' : ¬ (256 : Int) ≤ (l.length : Int) := by omega
    have hl256 : l.length < 256 := by omega
    clear h256
    go_enter Try.func59, Try.ntmps59
    go_wp2_with fail
    refine (HAT2.out _ ((Below.refl _ W).alloc (Nat.le_refl _) _)).mono ?_
    rintro e1 w1 ⟨rfl, hb1⟩
    have hb1 : Below (W.alloc (.cells s.enc.toArray 79)).heap.size (W.alloc (.cells s.enc.toArray 79)) w1 := by subst hb1; exact Below.refl _ _
    have HB1 : Hid (Below W.heap.size W w1) := ((Below.refl _ W).alloc (Nat.le_refl _) _).trans (hb1.mono (by simp))
    have HZ : Hid (Blk w1 W.heap.size #[.int .u64 s.hi, .int .u64 s.lo, .int .u64 s.id, .int .u64 s.up, .string s.name, .int .i64 s.status, .int .i64 s.seq, .int .i64 s.kids, .bool s.shadow, .int .i64 s.start, .int .i64 s.stop] 79) := (Blk.new W _ _).later hb1
    have hg : W.heap.size < w1.heap.size := by have := hb1.size; simp at this; omega
    have hg0 : W.heap.size ≤ w1.heap.size := by omega
    have hg1 : W.heap.size + 1 ≤ w1.heap.size := by omega
    have HV1 : Hid (Cellz p 12 w1 (.slice a l.length cap) l.length (l.flatMap Opn.enc)) := (HV.out.below HB1.out HP.out).cellz Opn.enc_length
    clear hb1
    go_wp2_with (at_builtin; refine wpList_pushCells elem93 rfl _ _ rfl (W.heap.size + 1) _ 0 [] rfl (World.ownsRow_nil _ _ _ _) rfl HV1.out (one_cells l) ?_ ?_ hg1 ?_)
    · unfold maxLen; omega
    · omega
    intro v1 w2 hown1 hb2
    have hown1 : w2.ownsRow (W.heap.size + 1) 129 12 v1 l.length (l.flatMap Opn.enc) := by simpa using hown1
    have HO1 := hid hown1
    have HB2 := hid hb2
    have hw2 : W.heap.size + 1 ≤ w2.heap.size := Nat.le_trans hg1 hb2.size
    obtain ⟨z0, z1, z2, z3, z4, z5, z6, z7, z8, z9, z10, zf⟩ := blk11 (HZ.out.below hb2 (by omega))
    clear hown1 hb2
    go_wp2_with (at_builtin; refine wpList_push elem93 rfl _ _ rfl (W.heap.size + 1) _ _ _ (Opn.enc ⟨no, s⟩) rfl HO1.out rfl rfl rfl (by simp [Opn.enc, Sp.enc, Value.oneCell']) ?_ ?_ hw2 ?_)
    · unfold maxLen; omega
    · omega
    intro v2 w3 hown2 hb3
    have HO2 : Hid (w3.ownsRow (W.heap.size + 1) 129 12 v2 (l ++ [(⟨no, s⟩ : Opn)]).length ((l ++ [(⟨no, s⟩ : Opn)]).flatMap Opn.enc)) := by
      show World.ownsRow _ _ _ _ _ _ _
      rw [← snoc_cells, List.length_append]; exact hown2
    have HB3 : Hid (Below W.heap.size W w3) := (HB1.out.trans (HB2.out.mono (by omega))).trans (hb3.mono (by omega))
    clear hown2 hb3
    go_wp2_with fail
    go_ret2
    refine ⟨_, rfl, v2, ?_, HB3.out, ?_⟩
    · rw [← HR.out, e.out]; rfl
    · rw [← HR.out, e.out]
      exact (RowsOf.of_owns Opn.enc_length HO2.out).imp fun b hb => ⟨by omega, hb.2⟩
end C24
end Go.Proofs.Ytefaegoajjcfjaa
