/- Walks of layer 30 (store): a span put into a trace; no condition. -/
import Derived.Test.YtdamnbldimompaaH30
import Derived.Deep.RegionLaw
import Derived.Maps.AppendAt
import Derived.Deep.RegionHeld3
namespace Go.Peri
open Go.RowKit
theorem Only.of_grown {w w' : World} {row : Option Nat} (h : w.grownBy w' row) : Only row.toList w w' :=
  ⟨h.os, h.tape, h.output, h.size, fun k hk hs => h.block k hk (by rintro rfl; simp at hs)⟩
/-- 'append(out, x)' with where the new row lies, inside a region that draws its order. -/
theorem step_push_at {P : Program} {t e : TypeId} {size bytes : Nat} (E : Elem P t e size bytes) {ops : Array Oper} {o : Oper} {a : Act} {Q : Exit → Act → World → Prop} {K : Act → World → Prop} {X : Prop} {w w0 : World} (hgd : o.guard = none) (s x : Operand)
    (ho : o.op = .call { callee := .builtin .append, args := #[s, x], argTypes := #[t, t] }) (base : Nat) (v : Value) (n : Nat) (xs news : List Value) (hs : a.eval s = v) (hown : w0.ownsRow base e size v n xs) {T : TypeId}
    (hw : w = w0.alloc (.cells news.toArray T)) (hx : a.eval x = .slice (some ⟨w0.heap.size, 0, none⟩) 1 1) (hl : news.length = size) (h1 : ∀ u ∈ news, u.oneCell' = true)
    (h63 : n + 1 ≤ maxLen) (hbytes : (n + 1) * bytes ≤ 140737488355328) (hbase : base ≤ w0.heap.size)
    (h : ∀ hb cap w', w'.ownsRow base e size (.slice (some ⟨hb, 0, none⟩) (n + 1) cap) (n + 1) (xs ++ news) → Only v.ownBlock.toList w0 w' → (some hb = v.ownBlock ∨ w0.heap.size ≤ hb) → K (a.put o.dst (.slice (some ⟨hb, 0, none⟩) (n + 1) cap)) w') :
    if Region.wanted o (yielded ops a.tmps) = true then Oper.wp P o a w K Q else X := by
  have hwant : Region.wanted o (yielded ops a.tmps) = true := by simp [Region.wanted, hgd]
  rw [if_pos hwant]
  subst hw
  obtain ⟨i, z, hi, hz, hsz, hby, hzs⟩ := E.info
  obtain ⟨v', w', hr, h2, h3, _, h5⟩ := run_append_own_at (P := P) (w0.alloc (.cells news.toArray T)) base t o.type e i z size bytes E.under hi hz hsz hby hzs E.pos v n xs (hown.alloc _) ⟨w0.heap.size, 0, none⟩ 1 1 news (by omega) (by
    intro j u hj
    have e1 : (⟨w0.heap.size, 0, none⟩ : Addr).add j = ⟨w0.heap.size, j, none⟩ := by
      unfold Addr.add; split
      · rename_i hz; rw [hz]
      · simp
    rw [e1, World.cell?_alloc_new]
    simpa using hj) h1 h63 hbytes (by simp; omega)
  have hform : ∃ hb cap, v' = .slice (some ⟨hb, 0, none⟩) (n + 1) cap := by
    rcases h2.2 with ⟨_, h0⟩ | ⟨g, cap, cur, rfl, _⟩
    · omega
    · exact ⟨g, cap, rfl⟩
  obtain ⟨hb, cap, rfl⟩ := hform
  have hK := h hb cap w' h2 ((Only.refl _ w0).alloc _ |>.trans (Only.of_grown h3)) (by
    rcases h5 with h5 | h5
    · exact .inl h5
    · simp [Value.ownBlock] at h5; exact .inr (by omega))
  unfold Oper.wp execOp
  simp only [ho, resolve, invoke, builtin, Sem.run_bind, Sem.run_pure, Result.andThen_ok, List.map_toArray, List.map_cons, List.map_nil, hs, hx, hr]
  exact hK
theorem blk11 {w : World} {g t : Nat} {a0 a1 a2 a3 a4 a5 a6 a7 a8 a9 a10 : Value} (h : Blk w g #[a0, a1, a2, a3, a4, a5, a6, a7, a8, a9, a10] t) :
    w.cell? ⟨g, 0, none⟩ = some a0 ∧ w.cell? ⟨g, 1, none⟩ = some a1 ∧ w.cell? ⟨g, 2, none⟩ = some a2 ∧ w.cell? ⟨g, 3, none⟩ = some a3 ∧ w.cell? ⟨g, 4, none⟩ = some a4 ∧ w.cell? ⟨g, 5, none⟩ = some a5 ∧ w.cell? ⟨g, 6, none⟩ = some a6 ∧ w.cell? ⟨g, 7, none⟩ = some a7 ∧ w.cell? ⟨g, 8, none⟩ = some a8 ∧ w.cell? ⟨g, 9, none⟩ = some a9 ∧ w.cell? ⟨g, 10, none⟩ = some a10 ∧ ∀ i, w.frozen? ⟨g, i, none⟩ = false :=
  ⟨h.cell 0, h.cell 1, h.cell 2, h.cell 3, h.cell 4, h.cell 5, h.cell 6, h.cell 7, h.cell 8, h.cell 9, h.cell 10, h.free⟩
theorem Kq.flat_get5 {l : List Kq} {i : Nat} (hi : i < l.length) (j : Nat) (hj : j < 5) (u : Value) (hu : (Kq.enc l[i])[j]? = some u) : (l.flatMap Kq.enc)[i * 5 + j]? = some u := (flat_get Kq.enc_length l i hi j hj).trans hu
end Go.Peri
namespace Go.Proofs.Ytdamnbldimompaa
open Go.RowKit Go.Peri
open Gen (flat_set set_mid get_mid map_take_snoc owns_at owns_num owns_le owns_below owns_form)
namespace C30
open Kp (ix ixS)
/-- A store of traces that is one's own, one of them exchanged. -/
def PutQ (base g cap n i : Nat) (l : List Kq) (x : Kq) (s : Sp) (w w' : World) : Prop :=
  ∃ x' : Kq, x'.core = Kp.put x.core s ∧ Only (g :: kBlk x) w w' ∧ w'.ownsRow base 34 5 (.slice (some ⟨g, 0, none⟩) n cap) n ((l.set i x').flatMap Kq.enc) ∧ OwnK base w' x' ∧ ∀ b, b ∈ kBlk x' → b ∈ kBlk x ∨ w.heap.size ≤ b
theorem PutQ.drew {base g cap n i : Nat} {l : List Kq} {x : Kq} {s : Sp} {w w' : World} (h : PutQ base g cap n i l x s w w') : PutQ base g cap n i l x s w w'.drew := by
  obtain ⟨x', h1, h2, h3, h4, h5⟩ := h
  exact ⟨x', h1, h2.drew, h3, h4, h5⟩
def sv (s : Sp) : Value := .agg #[.int .u64 s.hi, .int .u64 s.lo, .int .u64 s.id, .int .u64 s.up, .string s.name, .int .i64 s.status, .int .i64 s.seq, .int .i64 s.kids, .bool s.shadow, .int .i64 s.start, .int .i64 s.stop]
theorem elem_cells {w : World} {base g cap n i : Nat} {l : List Kq} {x : Kq} (hrow : w.ownsRow base 34 5 (.slice (some ⟨g, 0, none⟩) n cap) n (l.flatMap Kq.enc)) (hn : l.length = n) (hi : i < l.length) (hx : l[i] = x) :
    w.cell? ⟨g, i * 5, none⟩ = some (.int .u64 x.hi) ∧ w.cell? ⟨g, i * 5 + 1, none⟩ = some (.int .u64 x.lo) ∧ w.cell? ⟨g, i * 5 + 2, none⟩ = some (.slice x.pa x.sp.length x.pcap) ∧ w.cell? ⟨g, i * 5 + 3, none⟩ = some (.bool x.spilled) ∧ w.cell? ⟨g, i * 5 + 4, none⟩ = some (.bool x.clash) := by
  refine Kq.cells (y := x) (w := w) (b := g) (o := i * 5) (fun j u hj => ?_)
  have hj2 : j < 5 := (List.getElem?_eq_some_iff.1 hj).1
  rw [hrow.cellAt (i * 5 + j) (by omega), flat_get Kq.enc_length _ i hi j hj2, hx]
  exact hj
theorem set_one {l : List Kq} {i : Nat} (hi : i < l.length) (j : Nat) (hj : j < 5) (u : Value) (x' : Kq) (hx : x'.enc = (l[i]).enc.set j u) : (l.flatMap Kq.enc).set (i * 5 + j) u = (l.set i x').flatMap Kq.enc := flat_set Kq.enc_length l i hi j u x' hj hx
set_option maxRecDepth 100000 in
set_option maxHeartbeats 4000000 in
/-- The number is there. -/
theorem put_hit (base g cap n i : Nat) (l : List Kq) (x : Kq) (s : Sp) (w : World) (hrow : w.ownsRow base 34 5 (.slice (some ⟨g, 0, none⟩) n cap) n (l.flatMap Kq.enc)) (hn : l.length = n) (hi : i < l.length) (hx : l[i] = x) (hown : OwnK base w x) (hfar : g ∉ kBlk x) (hg : g < w.heap.size) (hs : x.sp.length ≤ 1000000) (hh : ixS x.sp s.id < x.sp.length) :
    Calls Try.prog 24 #[.pointer (some ⟨g, i * 5, none⟩), .agg #[.int .u64 s.hi, .int .u64 s.lo, .int .u64 s.id, .int .u64 s.up, .string s.name, .int .i64 s.status, .int .i64 s.seq, .int .i64 s.kids, .bool s.shadow, .int .i64 s.start, .int .i64 s.stop]] w fun e w' => e = .returned (.tuple #[]) ∧ Hid (PutQ base g cap n i l x s w w') := by
  obtain ⟨k, hk⟩ : ∃ k, ixS x.sp s.id = k := ⟨_, rfl⟩
  have hat : atS x.sp s.id = k := by unfold atS; rw [if_pos hh, hk]
  have hkl : k < x.sp.length := by omega
  have hput : Kp.put x.core s = { x.core with clash := x.clash || !decide (x.sp[k] = s) } := by
    unfold Kp.put
    rw [dif_pos (show ixS x.core.sp s.id < x.core.sp.length from hh)]
    subst hk
    rfl
  have hrs : RowsOf (fun b => base ≤ b ∧ b < w.heap.size) Sp.enc 11 w (.slice x.pa x.sp.length x.pcap) x.sp := RowsOf.of_owns Sp.enc_length hown
  have HI := hid (sindex_any (p := fun b => base ≤ b ∧ b < w.heap.size) (.slice x.pa x.sp.length x.pcap) x.sp s.id w.heap.size (w.alloc (.cells #[.int .u64 s.hi, .int .u64 s.lo, .int .u64 s.id, .int .u64 s.up, .string s.name, .int .i64 s.status, .int .i64 s.seq, .int .i64 s.kids, .bool s.shadow, .int .i64 s.start, .int .i64 s.stop] 27)) (hrs.below (B := w.heap.size) ((Below.refl _ w).alloc (Nat.le_refl _) _) (fun b h => h.2)) (fun b h => by simp; omega) (by omega) (by simp) (by simp [go_sem]))
  rw [hat] at HI
  obtain ⟨c0, c1, c2, c3, c4⟩ := elem_cells hrow hn hi hx
  obtain ⟨y, hy⟩ : ∃ y, x.sp[k] = y := ⟨_, rfl⟩
  rw [hy] at hput
  obtain ⟨b, off, hpa, hpb, hcs⟩ : ∃ b off, x.pa = some ⟨b, off, none⟩ ∧ (base ≤ b ∧ b < w.heap.size) ∧ ∀ j u, y.enc[j]? = some u → w.cell? ⟨b, off + k * 11 + j, none⟩ = some u := by
    obtain ⟨a, cap', e, _, _, _, h5⟩ := hrs
    cases e
    rcases h5 with h5 | ⟨b, off, h1, h2, h3⟩
    · rw [h5] at hkl; simp at hkl
    · exact ⟨b, off, h1, h2, fun j u hu => h3 k hkl j u (by rw [hy]; exact hu)⟩
  have HROW := hid hrow
  have HOWN := hid hown
  have HFAR := hid hfar
  have HCS := hid hcs
  have HPUT := hid hput
  have HX := hid hx
  have HN := hid hn
  rw [hpa] at c2 HI
  have hbw := hpb.2
  have hb0 := hpb.1
  obtain ⟨N, hNL⟩ : ∃ N, x.sp.length = N := ⟨_, rfl⟩
  rw [hNL] at c2 HI hkl hs
  clear hrow hown hfar hcs hput hat hrs hpb hk hh hx hn hy
  have HFIN : Hid (∀ q : Bool, q = (x.clash || !decide (y = s)) → ∀ w1, Below w.heap.size w w1 → PutQ base g cap n i l x s w (w1.setCell ⟨g, i * 5 + 4, none⟩ (.bool q))) := hid (by
    intro q hq w1 hb1
    have ho1 : Only [g] w (w1.setCell ⟨g, i * 5 + 4, none⟩ (.bool q)) := (Only.of_below hb1).setCell (by simp) _
    refine ⟨{ x with clash := q }, ?_, ho1.mono (by simp), ?_, ?_, fun b hb => Or.inl hb⟩
    · rw [HPUT.out, hq]
      rfl
    · have := ((owns_below HROW.out hb1).stored (i * 5 + 4) (.bool q)).1
      rw [set_one hi 4 (by decide) _ { x with clash := q } (by rw [HX.out]; rfl)] at this
      exact this
    · refine HOWN.out.keep ho1 (fun b hb => ?_)
      simp
      rintro rfl
      exact HFAR.out hb)
  go_enter Try.func24, Try.ntmps24
  go_wp2_with fail
  refine HI.out.mono ?_
  rintro e w1 ⟨rfl, hb1⟩
  obtain ⟨z0, z1, z2, z3, z4, z5, z6, z7, z8, z9, z10, -⟩ := blk11 ((Blk.new w _ _).later hb1)
  have hbw1 : Below w.heap.size w w1 := ((Below.refl _ w).alloc (Nat.le_refl _) _).trans (hb1.mono (by simp))
  have HBW := hid hbw1
  have d2 := (hbw1.cell (p := ⟨g, i * 5 + 2, none⟩) hg).trans c2
  have d4 := (hbw1.cell (p := ⟨g, i * 5 + 4, none⟩) hg).trans c4
  obtain ⟨e0, e1, e2, e3, e4, e5, e6, e7, e8, e9, e10⟩ := Sp.cells (fun j u hu => (hbw1.cell (p := ⟨b, off + k * 11 + j, none⟩) hbw).trans (HCS.out j u hu))
  have f4 : w1.frozen? ⟨g, i * 5 + 4, none⟩ = false := (owns_below HROW.out hbw1).frozenAt _
  have hee := eqSp y s
  clear hb1 hbw1 HI c0 c1 c2 c3 c4 HCS
  have hkN : (k : Int) < (N : Int) := by omega
  have hk0 : (0 : Int) ≤ (k : Int) := by omega
  have kcl : ∀ q : Bool, x.clash = q → (q = true ∨ q = false ∧ ∃ r : Bool, decide (y = s) = r) := fun q _ => by cases q; exact Or.inr ⟨rfl, _, rfl⟩; exact Or.inl rfl
  obtain ⟨q, hq⟩ : ∃ q, x.clash = q := ⟨_, rfl⟩
  rw [hq] at d4 HFIN
  clear kcl hq
  have HPA := hid hpa
  have HNL := hid hNL
  clear hpa hNL hs hb0
  cases q
  · obtain ⟨r, hr⟩ : ∃ r, decide (y = s) = r := ⟨_, rfl⟩
    rw [hr] at hee HFIN
    clear hr
    cases r
    · go_wp2_with fail
      refine wp_region_still_tail 18 (by kernel_rfl) (by kernel_rfl) ?_
      simp only [List.take_succ_cons, List.take_zero, List.drop_succ_cons, List.drop_zero]
      repeat still_step
      refine wpStill_nil ?_
      change wpList _ _ _ _ _ w1.drew
      go_wp2_with fail
      go_end0
      exact ⟨rfl, (HFIN.out true (by simp) _ HBW.out).drew⟩
    · go_wp2_with fail
      refine wp_region_still_tail 18 (by kernel_rfl) (by kernel_rfl) ?_
      simp only [List.take_succ_cons, List.take_zero, List.drop_succ_cons, List.drop_zero]
      repeat still_step
      refine wpStill_nil ?_
      change wpList _ _ _ _ _ w1.drew
      go_wp2_with fail
      go_end0
      exact ⟨rfl, (HFIN.out false (by simp) _ HBW.out).drew⟩
  · go_wp2_with fail
    refine wp_region_held_drew (S := (fun w' => w'.cell? ⟨g, i * 5 + 4, none⟩ = some (.bool true) ∧ w'.frozen? ⟨g, i * 5 + 4, none⟩ = false)) (by kernel_rfl) (by exact ⟨d4, f4⟩) (fun hHeld => ?_)
    refine wpAnyH_take (i := 0) (oi := ⟨_, _, _, _, _, _⟩) (v := ?_) rfl (by kernel_rfl) (by kernel_rfl) (by kernel_rfl) (fun _ _ _ h => h) (Or.inl ⟨by rfl, ?_⟩) hHeld ?_
    rotate_left
    · (intro w hSw; (try dsimp only at hSw); go_simp) <;> with_reducible rfl
    try simp only [Act.put, List.setIfInBounds_toArray, List.set_cons_zero, List.set_cons_succ]
    refine wpAnyH_take (i := 1) (oi := ⟨_, _, _, _, _, _⟩) (v := ?_) rfl (by kernel_rfl) (by kernel_rfl) (by kernel_rfl) (fun _ _ _ h => h) (Or.inl ⟨by rfl, ?_⟩) hHeld ?_
    rotate_left
    · (intro w hSw; (try dsimp only at hSw); go_simp) <;> with_reducible rfl
    try simp only [Act.put, List.setIfInBounds_toArray, List.set_cons_zero, List.set_cons_succ]
    refine wpAnyH_take (i := 2) (oi := ⟨_, _, _, _, _, _⟩) (v := ?_) rfl (by kernel_rfl) (by kernel_rfl) (by kernel_rfl) (fun _ _ _ h => h) (Or.inl ⟨by rfl, ?_⟩) hHeld ?_
    rotate_left
    · (intro w hSw; (try dsimp only at hSw); go_simp) <;> with_reducible rfl
    try simp only [Act.put, List.setIfInBounds_toArray, List.set_cons_zero, List.set_cons_succ]
    refine wpAnyH_take (i := 3) (oi := ⟨_, _, _, _, _, _⟩) (v := ?_) rfl (by kernel_rfl) (by kernel_rfl) (by kernel_rfl) (fun _ _ _ h => h) (Or.inl ⟨by rfl, ?_⟩) hHeld ?_
    rotate_left
    · (intro w hSw; (try dsimp only at hSw); go_simp) <;> with_reducible rfl
    try simp only [Act.put, List.setIfInBounds_toArray, List.set_cons_zero, List.set_cons_succ]
    refine wpAnyH_take (i := 4) (oi := ⟨_, _, _, _, _, _⟩) (v := ?_) rfl (by kernel_rfl) (by kernel_rfl) (by kernel_rfl) (fun _ _ _ h => h) (Or.inl ⟨by rfl, ?_⟩) hHeld ?_
    rotate_left
    · (intro w hSw; (try dsimp only at hSw); go_simp) <;> with_reducible rfl
    try simp only [Act.put, List.setIfInBounds_toArray, List.set_cons_zero, List.set_cons_succ]
    refine wpAnyH_take (i := 5) (oi := ⟨_, _, _, _, _, _⟩) (v := ?_) rfl (by kernel_rfl) (by kernel_rfl) (by kernel_rfl) (fun _ _ _ h => h) (Or.inl ⟨by rfl, ?_⟩) hHeld ?_
    rotate_left
    · (intro w hSw; (try dsimp only at hSw); go_simp) <;> with_reducible rfl
    try simp only [Act.put, List.setIfInBounds_toArray, List.set_cons_zero, List.set_cons_succ]
    refine wpAnyH_take (i := 6) (oi := ⟨_, _, _, _, _, _⟩) (v := undef) rfl (by kernel_rfl) (by kernel_rfl) (by kernel_rfl) (fun _ _ _ h => h) (Or.inr ⟨by rfl, rfl⟩) hHeld ?_
    try simp only [Act.put, List.setIfInBounds_toArray, List.set_cons_zero, List.set_cons_succ]
    refine wpAnyH_take (i := 7) (oi := ⟨_, _, _, _, _, _⟩) (v := undef) rfl (by kernel_rfl) (by kernel_rfl) (by kernel_rfl) (fun _ _ _ h => h) (Or.inr ⟨by rfl, rfl⟩) hHeld ?_
    try simp only [Act.put, List.setIfInBounds_toArray, List.set_cons_zero, List.set_cons_succ]
    refine wpAnyH_take (i := 8) (oi := ⟨_, _, _, _, _, _⟩) (v := undef) rfl (by kernel_rfl) (by kernel_rfl) (by kernel_rfl) (fun _ _ _ h => h) (Or.inr ⟨by rfl, rfl⟩) hHeld ?_
    try simp only [Act.put, List.setIfInBounds_toArray, List.set_cons_zero, List.set_cons_succ]
    refine wpAnyH_take (i := 9) (oi := ⟨_, _, _, _, _, _⟩) (v := undef) rfl (by kernel_rfl) (by kernel_rfl) (by kernel_rfl) (fun _ _ _ h => h) (Or.inr ⟨by rfl, rfl⟩) hHeld ?_
    try simp only [Act.put, List.setIfInBounds_toArray, List.set_cons_zero, List.set_cons_succ]
    refine wpAnyH_take (i := 10) (oi := ⟨_, _, _, _, _, _⟩) (v := undef) rfl (by kernel_rfl) (by kernel_rfl) (by kernel_rfl) (fun _ _ _ h => h) (Or.inr ⟨by rfl, rfl⟩) hHeld ?_
    try simp only [Act.put, List.setIfInBounds_toArray, List.set_cons_zero, List.set_cons_succ]
    refine wpAnyH_take (i := 11) (oi := ⟨_, _, _, _, _, _⟩) (v := undef) rfl (by kernel_rfl) (by kernel_rfl) (by kernel_rfl) (fun _ _ _ h => h) (Or.inr ⟨by rfl, rfl⟩) hHeld ?_
    try simp only [Act.put, List.setIfInBounds_toArray, List.set_cons_zero, List.set_cons_succ]
    refine wpAnyH_take (i := 12) (oi := ⟨_, _, _, _, _, _⟩) (v := undef) rfl (by kernel_rfl) (by kernel_rfl) (by kernel_rfl) (fun _ _ _ h => h) (Or.inr ⟨by rfl, rfl⟩) hHeld ?_
    try simp only [Act.put, List.setIfInBounds_toArray, List.set_cons_zero, List.set_cons_succ]
    refine wpAnyH_take (i := 13) (oi := ⟨_, _, _, _, _, _⟩) (v := undef) rfl (by kernel_rfl) (by kernel_rfl) (by kernel_rfl) (fun _ _ _ h => h) (Or.inr ⟨by rfl, rfl⟩) hHeld ?_
    try simp only [Act.put, List.setIfInBounds_toArray, List.set_cons_zero, List.set_cons_succ]
    refine wpAnyH_take (i := 14) (oi := ⟨_, _, _, _, _, _⟩) (v := undef) rfl (by kernel_rfl) (by kernel_rfl) (by kernel_rfl) (fun _ _ _ h => h) (Or.inr ⟨by rfl, rfl⟩) hHeld ?_
    try simp only [Act.put, List.setIfInBounds_toArray, List.set_cons_zero, List.set_cons_succ]
    refine wpAnyH_take (i := 15) (oi := ⟨_, _, _, _, _, _⟩) (v := ?_) rfl (by kernel_rfl) (by kernel_rfl) (by kernel_rfl) (fun _ _ _ h => h) (Or.inl ⟨by rfl, ?_⟩) hHeld ?_
    rotate_left
    · (intro w hSw; (try dsimp only at hSw); go_simp) <;> with_reducible rfl
    try simp only [Act.put, List.setIfInBounds_toArray, List.set_cons_zero, List.set_cons_succ]
    refine wpAnyH_take (i := 16) (oi := ⟨_, _, _, _, _, _⟩) (v := ?_) rfl (by kernel_rfl) (by kernel_rfl) (by kernel_rfl) (fun _ _ _ h => h) (Or.inl ⟨by rfl, ?_⟩) hHeld ?_
    rotate_left
    · (intro w hSw; (try dsimp only at hSw); go_simp) <;> with_reducible rfl
    try simp only [Act.put, List.setIfInBounds_toArray, List.set_cons_zero, List.set_cons_succ]
    refine wpAnyH_take (i := 17) (oi := ⟨_, _, _, _, _, _⟩) (v := ?_) rfl (by kernel_rfl) (by kernel_rfl) (by kernel_rfl) (fun _ _ _ h => h) (Or.inl ⟨by rfl, ?_⟩) hHeld ?_
    rotate_left
    · (intro w hSw; (try dsimp only at hSw); go_simp) <;> with_reducible rfl
    try simp only [Act.put, List.setIfInBounds_toArray, List.set_cons_zero, List.set_cons_succ]
    refine wpAnyH_ready (rs := [18]) (by kernel_rfl) (by simp) ?_
    refine AllReadyH.cons (o := ⟨_, _, _, _, _, _⟩) rfl (fun K hK => ?_) AllReadyH.nil
    obtain ⟨s4, sf⟩ := hHeld
    go_simp
    refine hK.out _ _ (by exact ⟨World.cell?_setCell_same' _ _ _ (by first | rw [d4]; rfl | exact congrArg Option.isSome d4), by first | simp [f4] | exact f4⟩) (fun hHeld => ?_)
    clear hK K
    try simp only [Act.put, List.setIfInBounds_toArray, List.set_cons_zero, List.set_cons_succ]
    refine wpAnyH_done (by kernel_rfl) ?_ _
    go_wp2_with fail
    go_end0
    exact ⟨rfl, (HFIN.out true (by simp) _ HBW.out).drew⟩
set_option maxRecDepth 100000 in
set_option maxHeartbeats 4000000 in
/-- The number is not there. -/
theorem put_new (base g cap n i : Nat) (l : List Kq) (x : Kq) (s : Sp) (w : World) (hrow : w.ownsRow base 34 5 (.slice (some ⟨g, 0, none⟩) n cap) n (l.flatMap Kq.enc)) (hn : l.length = n) (hi : i < l.length) (hx : l[i] = x) (hown : OwnK base w x) (hfar : g ∉ kBlk x) (hg : g < w.heap.size) (hbg : base ≤ w.heap.size) (hs : x.sp.length ≤ 1000000) (hh : ¬ ixS x.sp s.id < x.sp.length) :
    Calls Try.prog 24 #[.pointer (some ⟨g, i * 5, none⟩), .agg #[.int .u64 s.hi, .int .u64 s.lo, .int .u64 s.id, .int .u64 s.up, .string s.name, .int .i64 s.status, .int .i64 s.seq, .int .i64 s.kids, .bool s.shadow, .int .i64 s.start, .int .i64 s.stop]] w fun e w' => e = .returned (.tuple #[]) ∧ Hid (PutQ base g cap n i l x s w w') := by
  have hat : atS x.sp s.id = -1 := by unfold atS; rw [if_neg hh]
  have hput : Kp.put x.core s = if 64 ≤ x.sp.length then { x.core with spilled := true } else { x.core with sp := x.sp ++ [s] } := by
    unfold Kp.put
    rw [dif_neg (show ¬ ixS x.core.sp s.id < x.core.sp.length from hh)]
    rfl
  have hrs : RowsOf (fun b => base ≤ b ∧ b < w.heap.size) Sp.enc 11 w (.slice x.pa x.sp.length x.pcap) x.sp := RowsOf.of_owns Sp.enc_length hown
  have HI := hid (sindex_any (p := fun b => base ≤ b ∧ b < w.heap.size) (.slice x.pa x.sp.length x.pcap) x.sp s.id w.heap.size (w.alloc (.cells #[.int .u64 s.hi, .int .u64 s.lo, .int .u64 s.id, .int .u64 s.up, .string s.name, .int .i64 s.status, .int .i64 s.seq, .int .i64 s.kids, .bool s.shadow, .int .i64 s.start, .int .i64 s.stop] 27)) (hrs.below (B := w.heap.size) ((Below.refl _ w).alloc (Nat.le_refl _) _) (fun b h => h.2)) (fun b h => by simp; omega) (by omega) (by simp) (by simp [go_sem]))
  rw [hat] at HI
  obtain ⟨c0, c1, c2, c3, c4⟩ := elem_cells hrow hn hi hx
  have HROW := hid hrow
  have HOWN := hid hown
  have HFAR := hid hfar
  have HPUT := hid hput
  have HX := hid hx
  have HN := hid hn
  clear hrow hown hfar hput hat hrs hh hx hn c0 c1 c3 c4
  go_enter Try.func24, Try.ntmps24
  go_wp2_with fail
  refine HI.out.mono ?_
  rintro e w1 ⟨rfl, hb1⟩
  have HZ := hid ((Blk.new w _ _).later hb1)
  have hbw1 : Below w.heap.size w w1 := ((Below.refl _ w).alloc (Nat.le_refl _) _).trans (hb1.mono (by simp))
  have HBW := hid hbw1
  have hwlt : w.heap.size < w1.heap.size := by have := hb1.size; simp at this; omega
  have d2 := (hbw1.cell (p := ⟨g, i * 5 + 2, none⟩) hg).trans c2
  have hg1 : g < w1.heap.size := by omega
  clear hb1 HI c2
  by_cases h64 : 64 ≤ x.sp.length
  · have HP := hid (HPUT.out.trans (if_pos h64))
    have f3 : w1.frozen? ⟨g, i * 5 + 3, none⟩ = false := (owns_below HROW.out hbw1).frozenAt _
    have d3 : ∃ u, w1.cell? ⟨g, i * 5 + 3, none⟩ = some u := ⟨_, (elem_cells (owns_below HROW.out hbw1) HN.out hi HX.out).2.2.2.1⟩
    obtain ⟨u3, d3⟩ := d3
    have h64' : (64 : Int) ≤ (x.sp.length : Int) := by omega
    clear hbw1 HPUT
    go_wp2_with fail
    go_end0
    refine ⟨rfl, { x with spilled := true }, ?_, ?_, ?_, ?_, fun b hb => Or.inl hb⟩
    · rw [HP.out]; rfl
    · exact ((Only.of_below HBW.out).setCell (by simp) _)
    · have := ((owns_below HROW.out HBW.out).stored (i * 5 + 3) (.bool true)).1
      rw [set_one hi 3 (by decide) _ { x with spilled := true } (by rw [HX.out]; rfl)] at this
      exact this
    · refine HOWN.out.keep (S := [g]) ((Only.of_below HBW.out).setCell (by simp) _) (fun b hb => ?_)
      simp
      rintro rfl
      exact HFAR.out hb
  · have HP := hid (HPUT.out.trans (if_neg h64))
    have h64' : ¬ (64 : Int) ≤ (x.sp.length : Int) := by omega
    have hl64 : x.sp.length < 64 := by omega
    have HO : Hid (w1.drew.ownsRow base 27 11 (.slice x.pa x.sp.length x.pcap) x.sp.length (x.sp.flatMap Sp.enc)) := hid (show w1.ownsRow _ _ _ _ _ _ from owns_below HOWN.out hbw1)
    have HR1 : Hid (w1.drew.ownsRow base 34 5 (.slice (some ⟨g, 0, none⟩) n cap) n (l.flatMap Kq.enc)) := hid (show w1.ownsRow _ _ _ _ _ _ from owns_below HROW.out hbw1)
    have l63 : x.sp.length + 1 ≤ 9223372036854775807 := by omega
    have lby : (x.sp.length + 1) * 96 ≤ 140737488355328 := by omega
    have lbase : base ≤ w1.drew.heap.size := Nat.le_trans hbg (Nat.le_of_lt hwlt)
    obtain ⟨N, hNL⟩ : ∃ N, x.sp.length = N := ⟨_, rfl⟩
    obtain ⟨a, ha⟩ : ∃ a, x.pa = a := ⟨_, rfl⟩
    rw [hNL] at h64' d2 HO l63 lby
    rw [ha] at d2 HO
    have HN1 : Hid (g ∉ (Value.slice a N x.pcap).ownBlock.toList) := hid (by have := HFAR.out; unfold kBlk blocks at this; rw [ha, hNL] at this; exact this)
    have HKX : Hid (kBlk x = (Value.slice a N x.pcap).ownBlock.toList) := hid (by unfold kBlk blocks; rw [ha, hNL])
    have HNL := hid hNL
    have HA := hid ha
    have HS := hid hs
    clear hbw1 HPUT h64 hl64 hNL ha hs
    have hgn : ¬ g = w1.heap.size := by omega
    go_wp2_with fail
    obtain ⟨z0, z1, z2, z3, z4, z5, z6, z7, z8, z9, z10, -⟩ := blk11 HZ.out
    go_region_law (refine step_push_at elemS rfl (.tmp 15) (.tmp 17) rfl base (.slice a N x.pcap) N (x.sp.flatMap Sp.enc) (Sp.enc s) (by simp [Act.eval]) HO.out rfl (by simp [Act.eval]) rfl (by simp [Sp.enc, Value.oneCell']) l63 lby lbase ?_; intro hb1 cap1 w2 hown1 honly1 hat1; have k2 : w2.cell? ⟨g, i * 5 + 2, none⟩ = some (.slice a N x.pcap) := (honly1.cell (p := ⟨g, i * 5 + 2, none⟩) hg1 HN1.out).trans d2; have kf : w2.frozen? ⟨g, i * 5 + 2, none⟩ = false := (owns_keep HR1.out honly1 (fun k hk => by obtain rfl : k = g := List.mem_singleton.1 hk; exact HN1.out)).frozenAt _)
    all_goals
      have HF1 := hid hown1
      have HF2 := hid honly1
      have HF3 := hid hat1
      clear hown1 honly1 hat1 k2 kf
      go_end0
      have hlen : (x.sp ++ [s]).length = N + 1 := by rw [List.length_append, HNL.out]; rfl
      have hrow2 := owns_keep HR1.out HF2.out (fun k hk => by obtain rfl : k = g := List.mem_singleton.1 hk; exact HN1.out)
      have hne : hb1 ≠ g := by
        rintro rfl
        rcases HF3.out with h | h
        · exact HN1.out (by rw [← h]; simp)
        · have : w1.drew.heap.size = w1.heap.size := rfl
          omega
      refine ⟨rfl, { x with pa := some ⟨hb1, 0, none⟩, pcap := cap1, sp := x.sp ++ [s] }, ?_, ?_, ?_, ?_, ?_⟩
      · rw [HP.out]; rfl
      · have h1 : Only (g :: kBlk x) w w1.drew := (Only.of_below HBW.out).drew
        exact (h1.trans (HF2.out.mono fun k hk => List.mem_cons_of_mem _ (by rw [HKX.out]; exact hk))).setCell (by simp) _
      · have := (hrow2.stored (i * 5 + 2) (.slice (some ⟨hb1, 0, none⟩) (N + 1) cap1)).1
        rw [set_one hi 2 (by decide) _ { x with pa := some ⟨hb1, 0, none⟩, pcap := cap1, sp := x.sp ++ [s] } (by rw [HX.out]; simp only [Kq.enc, hlen]; rfl)] at this
        exact this
      · have h1 : OwnK base w2 { x with pa := some ⟨hb1, 0, none⟩, pcap := cap1, sp := x.sp ++ [s] } := by
          show w2.ownsRow _ _ _ (.slice (some ⟨hb1, 0, none⟩) (x.sp ++ [s]).length cap1) (x.sp ++ [s]).length ((x.sp ++ [s]).flatMap Sp.enc)
          rw [hlen]
          have e2 : (x.sp ++ [s]).flatMap Sp.enc = x.sp.flatMap Sp.enc ++ Sp.enc s := by simp
          rw [e2]
          exact HF1.out
        refine h1.keep (S := [g]) ((Only.refl _ _).setCell (by simp) _) (fun b hb => ?_)
        obtain rfl : b = hb1 := List.mem_singleton.1 hb
        simp [hne]
      · intro b hb
        obtain rfl : b = hb1 := List.mem_singleton.1 hb
        rcases HF3.out with h | h
        · exact Or.inl (by rw [HKX.out, ← h]; simp)
        · exact Or.inr (Nat.le_trans (Nat.le_of_lt hwlt) h)
theorem put_any (base g cap n i : Nat) (l : List Kq) (x : Kq) (s : Sp) (w : World) (hrow : w.ownsRow base 34 5 (.slice (some ⟨g, 0, none⟩) n cap) n (l.flatMap Kq.enc)) (hn : l.length = n) (hi : i < l.length) (hx : l[i] = x) (hown : OwnK base w x) (hfar : g ∉ kBlk x) (hg : g < w.heap.size) (hbg : base ≤ w.heap.size) (hs : x.sp.length ≤ 1000000) :
    Calls Try.prog 24 #[.pointer (some ⟨g, i * 5, none⟩), .agg #[.int .u64 s.hi, .int .u64 s.lo, .int .u64 s.id, .int .u64 s.up, .string s.name, .int .i64 s.status, .int .i64 s.seq, .int .i64 s.kids, .bool s.shadow, .int .i64 s.start, .int .i64 s.stop]] w fun e w' => e = .returned (.tuple #[]) ∧ Hid (PutQ base g cap n i l x s w w') := by
  by_cases hh : ixS x.sp s.id < x.sp.length
  · exact put_hit base g cap n i l x s w hrow hn hi hx hown hfar hg hs hh
  · exact put_new base g cap n i l x s w hrow hn hi hx hown hfar hg hbg hs hh
end C30
end Go.Proofs.Ytdamnbldimompaa
