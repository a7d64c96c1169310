/- Walks of layer 30 (store): the document's Add; no condition. -/
import Derived.Test.YtdamnbldimompaaL30
namespace Go.Peri
namespace Gen
open Go.RowKit
theorem rows_drop {α : Type} {p : Nat → Prop} {enc : α → List Value} {k : Nat} {w : World} {b off n cap : Nat} {l : List α} (h : RowsOf p enc k w (.slice (some ⟨b, off, none⟩) n cap) l) (m : Nat) (hm : m ≤ n) : RowsOf p enc k w (.slice (some ⟨b, off + m * k, none⟩) (n - m) (cap - m)) (l.drop m) := by
  obtain ⟨a', cap', e, h2, h3, h4, h5⟩ := h
  cases e
  refine ⟨_, _, by rw [List.length_drop], by rw [List.length_drop]; omega, by omega, by simp, ?_⟩
  refine h5.imp (fun e => by rw [e]; simp) ?_
  rintro ⟨b', off', g1, g2, g3⟩
  cases g1
  refine ⟨b, off + m * k, rfl, g2, fun i hi j u hu => ?_⟩
  rw [List.length_drop] at hi
  rw [List.getElem_drop] at hu
  have := g3 (m + i) (by omega) j u hu
  rw [← this]
  congr 2
  rw [Nat.add_mul]
  omega
end Gen
end Go.Peri
namespace Go.Proofs.Ytdamnbldimompaa
open Go.RowKit Go.Peri
open Gen (rows_of_blk flat_set set_mid get_mid map_take_snoc owns_at owns_num owns_le owns_below owns_form)
namespace C30
open Kp (ix ixS)
theorem atK_pos {l : List Kq} {hi lo : Nat} (h : ix (l.map Kq.core) hi lo < l.length) : atK l hi lo = (ix (l.map Kq.core) hi lo : Nat) := by unfold atK; rw [if_pos h]
theorem atK_neg {l : List Kq} {hi lo : Nat} (h : ¬ ix (l.map Kq.core) hi lo < l.length) : atK l hi lo = -1 := by unfold atK; rw [if_neg h]
/-- What has been copied. -/
structure RCop (W : World) (l : List Kq) (v : Value) (w : World) : Prop where
  below : Below W.heap.size W w
  own : w.ownsRow (W.heap.size + 1) 34 5 v l.length (l.flatMap Kq.enc)
set_option maxRecDepth 100000 in
set_option maxHeartbeats 8000000 in
theorem radd_hit (v : Value) (l : List Kq) (room : Int) (s : Sp) (W : World) (h : RowsOf (· < W.heap.size) Kq.enc 5 W v l) (hl : l.length ≤ 100000) (ha : ∀ x ∈ l, x.At (· < W.heap.size) W) (hps : ∀ x ∈ l, x.sp.length ≤ 1000000) (hix : ix (l.map Kq.core) s.hi s.lo < l.length) :
    Calls Try.prog 10 #[v, .int .i64 room, .agg #[.int .u64 s.hi, .int .u64 s.lo, .int .u64 s.id, .int .u64 s.up, .string s.name, .int .i64 s.status, .int .i64 s.seq, .int .i64 s.kids, .bool s.shadow, .int .i64 s.start, .int .i64 s.stop]] W (Ret (AddQ W (Kp.add (l.map Kq.core) room s) 0)) := by
  obtain ⟨k, hk⟩ : ∃ k, ix (l.map Kq.core) s.hi s.lo = k := ⟨_, rfl⟩
  have hat : atK l s.hi s.lo = k := by rw [atK_pos hix, hk]
  have hkl : k < l.length := by omega
  obtain ⟨x, hx⟩ : ∃ x, l[k] = x := ⟨_, rfl⟩
  have hxm : x ∈ l := by rw [← hx]; exact List.getElem_mem _
  have HKL : Hid (Kp.add (l.map Kq.core) room s = (l.map Kq.core).set k (Kp.put x.core s)) := hid (by
    unfold Kp.add
    rw [dif_pos (show ix (l.map Kq.core) s.hi s.lo < (l.map Kq.core).length by rw [List.length_map]; exact hix)]
    subst hk
    simp only [List.getElem_map, hx])
  have HF := hid (fun w' (hb : Below W.heap.size W w') => rat_any (p := (· < W.heap.size)) v l s.hi s.lo k w' (h.below hb (fun _ h => h)) (fun b hb' => Nat.lt_of_lt_of_le hb' hb.size) (by omega) hat)
  have HW := hid (fun w' (hb : Below W.heap.size W w') => with_any W.heap.size x s w' ((ha x hxm).below hb (fun _ h => h)) hb.size (hps x hxm))
  have HA := hid ha
  have HX := hid hx
  obtain ⟨a, cap, rfl⟩ : ∃ a cap, v = .slice a l.length cap := by
    obtain ⟨a, cap, e, _⟩ := h
    exact ⟨a, cap, e⟩
  obtain ⟨b, off, rfl, hbW, hcs⟩ : ∃ b off, a = some ⟨b, off, none⟩ ∧ b < W.heap.size ∧ ∀ j u, x.enc[j]? = some u → W.cell? ⟨b, off + k * 5 + j, none⟩ = some u := by
    obtain ⟨a', c', e, _, _, _, h5⟩ := h
    cases e
    rcases h5 with h5 | ⟨b, off, h1, h2, h3⟩
    · rw [h5] at hkl; simp at hkl
    · exact ⟨b, off, h1, h2, fun j u hu => h3 k hkl j u (by rw [hx]; exact hu)⟩
  have HCS := hid hcs
  have HROW := hid h
  clear h ha hps hk hat hx hxm hcs
  clear hix
  go_enter Try.func10, Try.ntmps10
  go_upto_region 3 with fail
  refine wp_gen ?_
  intro w1 hw1
  have hb1 : Below W.heap.size W w1 := by rw [hw1]; go_grown
  have hk1 : Blk w1 W.heap.size #[.int .u64 s.hi, .int .u64 s.lo, .int .u64 s.id, .int .u64 s.up, .string s.name, .int .i64 s.status, .int .i64 s.seq, .int .i64 s.kids, .bool s.shadow, .int .i64 s.start, .int .i64 s.stop] 27 := by rw [hw1]; exact Blk.new _ _ _
  clear hw1
  have HB1 := hid hb1
  have HK1 := hid hk1
  have hs1 : W.heap.size + 1 ≤ w1.heap.size := hk1.lt
  have HC : Hid (Cellz (· < W.heap.size) 5 w1 (.slice (some ⟨b, off, none⟩) l.length cap) l.length (l.flatMap Kq.enc)) := hid (RowsOf.cellz Kq.enc_length (HROW.out.below hb1 (fun _ h => h)))
  clear hb1 hk1
  go_wp2_with (at_builtin; refine wpList_pushCells elemK rfl _ _ rfl (W.heap.size + 1) _ 0 [] rfl (World.ownsRow_nil _ _ _ _) rfl HC.out (Kq.one _) ?_ ?_ hs1 ?_)
  · unfold maxLen; omega
  · omega
  intro v2 w2 hown2 hb2
  have HR2 : Hid (RCop W l v2 w2) := hid ⟨HB1.out.trans (hb2.mono (by omega)), by simpa using hown2⟩
  obtain ⟨a2, cap2, rfl⟩ := owns_form HR2.out.own
  obtain ⟨g, c2, e2, hg1, hg2⟩ := owns_at HR2.out.own (by omega)
  cases e2
  have HK2 := hid (HK1.out.below hb2 (by omega))
  have hs2 : w1.heap.size ≤ w2.heap.size := hb2.size
  clear hown2 hb2 HC HK1
  have z0 : w2.cell? ⟨W.heap.size, 0, none⟩ = some (.int .u64 s.hi) := HK2.out.cell 0
  have z1 : w2.cell? ⟨W.heap.size, 1, none⟩ = some (.int .u64 s.lo) := HK2.out.cell 1
  have hWl := HK2.out.lt
  go_wp2_with fail
  refine (HF.out w2 HR2.out.below).mono ?_
  rintro e w3 ⟨rfl, hb3⟩
  have HK3 := hid (HK2.out.later hb3)
  have HB3 := hid hb3
  have HR3 : Hid (RCop W l (.slice (some ⟨g, 0, none⟩) l.length cap2) w3) := hid ⟨HR2.out.below.trans (hb3.mono HR2.out.below.size), owns_below HR2.out.own hb3⟩
  have hs3 : w2.heap.size ≤ w3.heap.size := hb3.size
  clear hb3 z0 z1 hWl HF
  obtain ⟨y0, y1, y2, y3, y4, y5, y6, y7, y8, y9, y10, -⟩ := blk11 HK3.out
  have hWl3 := HK3.out.lt
  have KEEP : Hid (∀ w', Only [g] w3 w' → w'.cell? ⟨W.heap.size, 0, none⟩ = some (.int .u64 s.hi) ∧ w'.cell? ⟨W.heap.size, 1, none⟩ = some (.int .u64 s.lo) ∧ w'.cell? ⟨W.heap.size, 2, none⟩ = some (.int .u64 s.id) ∧ w'.cell? ⟨W.heap.size, 3, none⟩ = some (.int .u64 s.up) ∧ w'.cell? ⟨W.heap.size, 4, none⟩ = some (.string s.name) ∧ w'.cell? ⟨W.heap.size, 5, none⟩ = some (.int .i64 s.status) ∧ w'.cell? ⟨W.heap.size, 6, none⟩ = some (.int .i64 s.seq) ∧ w'.cell? ⟨W.heap.size, 7, none⟩ = some (.int .i64 s.kids) ∧ w'.cell? ⟨W.heap.size, 8, none⟩ = some (.bool s.shadow) ∧ w'.cell? ⟨W.heap.size, 9, none⟩ = some (.int .i64 s.start) ∧ w'.cell? ⟨W.heap.size, 10, none⟩ = some (.int .i64 s.stop) ∧ w'.cell? ⟨b, off + k * 5, none⟩ = some (.int .u64 x.hi) ∧ w'.cell? ⟨b, off + k * 5 + 1, none⟩ = some (.int .u64 x.lo) ∧ w'.cell? ⟨b, off + k * 5 + 2, none⟩ = some (.slice x.pa x.sp.length x.pcap) ∧ w'.cell? ⟨b, off + k * 5 + 3, none⟩ = some (.bool x.spilled) ∧ w'.cell? ⟨b, off + k * 5 + 4, none⟩ = some (.bool x.clash)) := hid (fun w' hb =>
    have hh := blk11 (HK3.out.only hb (by simp; omega))
    have hbb : Below W.heap.size W w' := HR3.out.below.trans (hb.below HR3.out.below.size (fun b hb => by simp at hb; omega))
    have hx := Kq.cells (fun j u hu => (hbb.cell (p := ⟨b, off + k * 5 + j, none⟩) hbW).trans (HCS.out j u hu))
    ⟨hh.1, hh.2.1, hh.2.2.1, hh.2.2.2.1, hh.2.2.2.2.1, hh.2.2.2.2.2.1, hh.2.2.2.2.2.2.1, hh.2.2.2.2.2.2.2.1, hh.2.2.2.2.2.2.2.2.1, hh.2.2.2.2.2.2.2.2.2.1, hh.2.2.2.2.2.2.2.2.2.2.1, hx.1, hx.2.1, hx.2.2.1, hx.2.2.2.1, hx.2.2.2.2⟩)
  have XW : Hid (∀ w', Below w3.heap.size w3 w' → Calls Try.prog 27 #[.agg #[.int .u64 x.hi, .int .u64 x.lo, .slice x.pa x.sp.length x.pcap, .bool x.spilled, .bool x.clash], .agg #[.int .u64 s.hi, .int .u64 s.lo, .int .u64 s.id, .int .u64 s.up, .string s.name, .int .i64 s.status, .int .i64 s.seq, .int .i64 s.kids, .bool s.shadow, .int .i64 s.start, .int .i64 s.stop]] w' fun e w5 => ∃ k' : Kq, e = .returned (.agg #[.int .u64 k'.hi, .int .u64 k'.lo, .slice k'.pa k'.sp.length k'.pcap, .bool k'.spilled, .bool k'.clash]) ∧ Below w3.heap.size w3 w5 ∧ (∃ u, w5.cell? ⟨g, k * 5, none⟩ = some u) ∧ (∃ u, w5.cell? ⟨g, k * 5 + 1, none⟩ = some u) ∧ (∃ u, w5.cell? ⟨g, k * 5 + 2, none⟩ = some u) ∧ (∃ u, w5.cell? ⟨g, k * 5 + 3, none⟩ = some u) ∧ (∃ u, w5.cell? ⟨g, k * 5 + 4, none⟩ = some u) ∧ (∀ j, w5.frozen? ⟨g, j, none⟩ = false) ∧ Hid (AddR W (Kp.add (l.map Kq.core) room s) (some ⟨g, 0, none⟩) l.length cap2 (put5 w5 g (k * 5) k'))) := hid (fun w' hb => by
    have hbW' := HR3.out.below.trans (hb.mono HR3.out.below.size)
    refine (HW.out w' hbW').mono ?_
    rintro e w5 ⟨v, rfl, k', rfl, hc, hb5, hat5⟩
    have hb35 : Below w3.heap.size w3 w5 := hb.trans (hb5.mono hb.size)
    have hrow := owns_below HR3.out.own hb35
    have hcc := elem_cells hrow rfl hkl HX.out
    have hw5 : w'.heap.size ≤ w5.heap.size := hb5.size
    have hw3' : w3.heap.size ≤ w'.heap.size := hb.size
    refine ⟨k', rfl, hb35, ⟨_, hcc.1⟩, ⟨_, hcc.2.1⟩, ⟨_, hcc.2.2.1⟩, ⟨_, hcc.2.2.2.1⟩, ⟨_, hcc.2.2.2.2⟩, fun j => hrow.frozenAt _, ?_⟩
    have ho := put5_only w5 g (k * 5) k'
    have hbf : Below W.heap.size W (put5 w5 g (k * 5) k') := (HR3.out.below.trans (hb35.mono HR3.out.below.size)).trans (ho.below (HR3.out.below.trans (hb35.mono HR3.out.below.size)).size (fun b hb => by simp at hb; omega))
    have hlen : (l.set k k').length = l.length := List.length_set
    refine ⟨l.set k k', hlen, by rw [HKL.out, List.map_set, hc], hbf, ?_, fun y hy => ?_⟩
    · refine rows_len hlen (RowsOf.imp (p := fun b => W.heap.size + 1 ≤ b ∧ b < (put5 w5 g (k * 5) k').heap.size) (RowsOf.of_owns (e := 34) Kq.enc_length ?_) (fun b hb => hb.2))
      rw [hlen]
      exact put5_owns hrow k hkl k'
    · rcases List.mem_or_eq_of_mem_set hy with hy | rfl
      · exact ((HA.out y hy).below hbf (fun _ h => h)).imp (fun b hb => Nat.lt_of_lt_of_le hb hbf.size)
      · exact (hat5.only ho (fun b hb => ⟨hb.2, by have := hb.1; simp; omega⟩)).imp (fun b hb => Nat.lt_of_lt_of_le hb.2 ho.size))
  have i1 : (0 : Int) ≤ (k : Int) := by omega
  have i2 : (k : Int) < (l.length : Int) := by omega
  clear HW HCS HA HX HKL HR2 HK2 HROW
  generalize l.length = n at *
  have hbw3 : b < w3.heap.size := by omega
  have hgw3 : g < w3.heap.size := by omega
  go_wp2_with fail
  go_region_held3 (fun w' => w'.cell? ⟨W.heap.size, 0, none⟩ = some (.int .u64 s.hi) ∧ w'.cell? ⟨W.heap.size, 1, none⟩ = some (.int .u64 s.lo) ∧ w'.cell? ⟨W.heap.size, 2, none⟩ = some (.int .u64 s.id) ∧ w'.cell? ⟨W.heap.size, 3, none⟩ = some (.int .u64 s.up) ∧ w'.cell? ⟨W.heap.size, 4, none⟩ = some (.string s.name) ∧ w'.cell? ⟨W.heap.size, 5, none⟩ = some (.int .i64 s.status) ∧ w'.cell? ⟨W.heap.size, 6, none⟩ = some (.int .i64 s.seq) ∧ w'.cell? ⟨W.heap.size, 7, none⟩ = some (.int .i64 s.kids) ∧ w'.cell? ⟨W.heap.size, 8, none⟩ = some (.bool s.shadow) ∧ w'.cell? ⟨W.heap.size, 9, none⟩ = some (.int .i64 s.start) ∧ w'.cell? ⟨W.heap.size, 10, none⟩ = some (.int .i64 s.stop) ∧ w'.cell? ⟨b, off + k * 5, none⟩ = some (.int .u64 x.hi) ∧ w'.cell? ⟨b, off + k * 5 + 1, none⟩ = some (.int .u64 x.lo) ∧ w'.cell? ⟨b, off + k * 5 + 2, none⟩ = some (.slice x.pa x.sp.length x.pcap) ∧ w'.cell? ⟨b, off + k * 5 + 3, none⟩ = some (.bool x.spilled) ∧ w'.cell? ⟨b, off + k * 5 + 4, none⟩ = some (.bool x.clash)) ((refine KEEP.out _ ?_; (first | ((iterate 5 (with_reducible refine Only.setCell ?_ (by simp) _)); with_reducible exact Only.of_below (by assumption)) | (with_reducible exact Only.of_below (by assumption)) | exact Only.refl _ _ | exact (Only.refl _ _).drew)))
    ((go_at_call 27; refine (XW.out _ (by first | assumption | exact Below.refl _ _ | exact (Below.refl _ _).drew)).mono ?_; rintro e w5 ⟨k', rfl, hB5, ⟨u0, p0⟩, ⟨u1, p1⟩, ⟨u2, p2⟩, ⟨u3, p3⟩, ⟨u4, p4⟩, pf, hfin⟩))
  all_goals
    have HZ := hfin
    unfold put5 at HZ
    clear hfin
    go_wp2_with fail
    go_ret2
    exact ⟨_, rfl, _, _, _, rfl, HZ.out⟩
set_option maxRecDepth 100000 in
set_option maxHeartbeats 8000000 in
theorem radd_miss (v : Value) (l : List Kq) (room : Int) (s : Sp) (W : World) (h : RowsOf (· < W.heap.size) Kq.enc 5 W v l) (hl : l.length ≤ 100000) (ha : ∀ x ∈ l, x.At (· < W.heap.size) W) (hix : ¬ ix (l.map Kq.core) s.hi s.lo < l.length) :
    Calls Try.prog 10 #[v, .int .i64 room, .agg #[.int .u64 s.hi, .int .u64 s.lo, .int .u64 s.id, .int .u64 s.up, .string s.name, .int .i64 s.status, .int .i64 s.seq, .int .i64 s.kids, .bool s.shadow, .int .i64 s.start, .int .i64 s.stop]] W (Ret (AddQ W (Kp.add (l.map Kq.core) room s) (l.length + 1 - Kp.roomR room))) := by
  have hat : atK l s.hi s.lo = -1 := atK_neg hix
  have HKL : Hid (Kp.add (l.map Kq.core) room s = (l.map Kq.core ++ [Kp.fresh s]).drop (l.length + 1 - Kp.roomR room)) := hid (by
    unfold Kp.add
    rw [dif_neg (show ¬ ix (l.map Kq.core) s.hi s.lo < (l.map Kq.core).length by rw [List.length_map]; exact hix), List.length_map])
  have HF := hid (fun w' (hb : Below W.heap.size W w') => rat_any (p := (· < W.heap.size)) v l s.hi s.lo (-1) w' (h.below hb (fun _ h => h)) (fun b hb' => Nat.lt_of_lt_of_le hb' hb.size) (by omega) hat)
  have HA := hid ha
  obtain ⟨a, cap, rfl⟩ : ∃ a cap, v = .slice a l.length cap := by
    obtain ⟨a, cap, e, _⟩ := h
    exact ⟨a, cap, e⟩
  have HROW := hid h
  clear h ha hat hix
  go_enter Try.func10, Try.ntmps10
  go_upto_region 3 with fail
  refine wp_gen ?_
  intro w1 hw1
  have hb1 : Below W.heap.size W w1 := by rw [hw1]; go_grown
  have hk1 : Blk w1 W.heap.size #[.int .u64 s.hi, .int .u64 s.lo, .int .u64 s.id, .int .u64 s.up, .string s.name, .int .i64 s.status, .int .i64 s.seq, .int .i64 s.kids, .bool s.shadow, .int .i64 s.start, .int .i64 s.stop] 27 := by rw [hw1]; exact Blk.new _ _ _
  clear hw1
  have HB1 := hid hb1
  have HK1 := hid hk1
  have hs1 : W.heap.size + 1 ≤ w1.heap.size := hk1.lt
  have HC : Hid (Cellz (· < W.heap.size) 5 w1 (.slice a l.length cap) l.length (l.flatMap Kq.enc)) := hid (RowsOf.cellz Kq.enc_length (HROW.out.below hb1 (fun _ h => h)))
  clear hb1 hk1
  go_wp2_with (at_builtin; refine wpList_pushCells elemK rfl _ _ rfl (W.heap.size + 1) _ 0 [] rfl (World.ownsRow_nil _ _ _ _) rfl HC.out (Kq.one _) ?_ ?_ hs1 ?_)
  · unfold maxLen; omega
  · omega
  intro v2 w2 hown2 hb2
  have HR2 : Hid (RCop W l v2 w2) := hid ⟨HB1.out.trans (hb2.mono (by omega)), by simpa using hown2⟩
  obtain ⟨a2, cap2, rfl⟩ := owns_form HR2.out.own
  have HK2 := hid (HK1.out.below hb2 (by omega))
  have hs2 : w1.heap.size ≤ w2.heap.size := hb2.size
  clear hown2 hb2 HC HK1
  have z0 : w2.cell? ⟨W.heap.size, 0, none⟩ = some (.int .u64 s.hi) := HK2.out.cell 0
  have z1 : w2.cell? ⟨W.heap.size, 1, none⟩ = some (.int .u64 s.lo) := HK2.out.cell 1
  have hWl := HK2.out.lt
  go_wp2_with fail
  refine (HF.out w2 HR2.out.below).mono ?_
  rintro e w3 ⟨rfl, hb3⟩
  have HK3 := hid (HK2.out.later hb3)
  have HR3 : Hid (RCop W l (.slice a2 l.length cap2) w3) := hid ⟨HR2.out.below.trans (hb3.mono HR2.out.below.size), owns_below HR2.out.own hb3⟩
  have hs3 : w2.heap.size ≤ w3.heap.size := hb3.size
  clear hb3 z0 z1 hWl HF
  obtain ⟨y0, y1, y2, y3, y4, y5, y6, y7, y8, y9, y10, -⟩ := blk11 HK3.out
  have hWl3 := HK3.out.lt
  have HO3 : Hid ((w3.alloc (.cells #[.int .u64 s.hi, .int .u64 s.lo, .int .u64 s.id, .int .u64 s.up, .string s.name, .int .i64 s.status, .int .i64 s.seq, .int .i64 s.kids, .bool s.shadow, .int .i64 s.start, .int .i64 s.stop] 27)).ownsRow (W.heap.size + 1) 34 5 (.slice a2 l.length cap2) l.length (l.flatMap Kq.enc)) := hid (HR3.out.own.alloc _)
  clear HR2 HK2
  go_wp2_with (at_builtin; refine wpList_push_at elemK rfl _ _ rfl (W.heap.size + 1) _ _ _ [.int .u64 s.hi, .int .u64 s.lo, .slice (some ⟨w3.heap.size, 0, none⟩) 1 1, .bool false, .bool false] rfl HO3.out rfl (by simp [Act.eval, Act.put]) rfl (by simp [Value.oneCell']) ?_ ?_ ?_ ?_)
  · unfold maxLen; omega
  · omega
  · simp; omega
  intro v4 w4 hown4 honly4 hmv4
  obtain ⟨a4, cap4, rfl⟩ := owns_form hown4
  obtain ⟨g, c4, e4, hg4, hg4l⟩ := owns_at hown4 (by omega)
  cases e4
  have hr := Kp.room_eq room l.length
  obtain ⟨gn, hgn⟩ : ∃ gn, l.length + 1 - Kp.roomR room = gn := ⟨_, rfl⟩
  rw [hgn] at hr HKL ⊢
  have hgl : gn < l.length + 1 := by have := Kp.room_lo room; omega
  have hcap4 : l.length + 1 ≤ cap4 := by
    rcases hown4.2 with ⟨e, _⟩ | ⟨g', c', cur, e, _, _, hn, _⟩
    · cases e
    · cases e; exact hn
  have HFIN : Hid (AddR W (Kp.add (l.map Kq.core) room s) (some ⟨g, gn * 5, none⟩) (l.length + 1 - gn) (cap4 - gn) w4) := hid (by
    obtain ⟨y, hy⟩ : ∃ y : Kq, y = ⟨s.hi, s.lo, some ⟨w3.heap.size, 0, none⟩, 1, [s], false, false⟩ := ⟨_, rfl⟩
    have hl2 : (l ++ [y]).length = l.length + 1 := by rw [List.length_append]; rfl
    have hsz4 : w3.heap.size + 1 ≤ w4.heap.size := by have := honly4.size; simpa using this
    have hbl1 : ∀ b, b ∈ blocks (.slice a2 l.length cap2) → W.heap.size + 1 ≤ b ∧ b < w3.heap.size := fun b hb => owns_bd HR3.out.own b hb
    have h1 : Below W.heap.size W (w3.alloc (.cells #[.int .u64 s.hi, .int .u64 s.lo, .int .u64 s.id, .int .u64 s.up, .string s.name, .int .i64 s.status, .int .i64 s.seq, .int .i64 s.kids, .bool s.shadow, .int .i64 s.start, .int .i64 s.stop] 27)) := HR3.out.below.alloc (by omega) _
    have hbf : Below W.heap.size W w4 := h1.trans (honly4.below h1.size (fun b hb => by have := (hbl1 b hb).1; omega))
    have hrow : RowsOf (fun b => W.heap.size + 1 ≤ b ∧ b < w4.heap.size) Kq.enc 5 w4 (.slice (some ⟨g, 0, none⟩) (l ++ [y]).length cap4) (l ++ [y]) := RowsOf.of_owns (e := 34) Kq.enc_length (by
      rw [hl2]
      have e2 : (l ++ [y]).flatMap Kq.enc = l.flatMap Kq.enc ++ [.int .u64 s.hi, .int .u64 s.lo, .slice (some ⟨w3.heap.size, 0, none⟩) 1 1, .bool false, .bool false] := by rw [hy]; simp [Kq.enc]
      rw [e2]
      exact hown4)
    have hd := Gen.rows_drop (n := l.length + 1) (m := gn) (by rw [← hl2]; exact hrow) (by omega)
    have hlen : ((l ++ [y]).drop gn).length = l.length + 1 - gn := by rw [List.length_drop, hl2]
    rw [Nat.zero_add] at hd
    refine ⟨(l ++ [y]).drop gn, hlen, ?_, hbf, ?_, fun x hx => ?_⟩
    · rw [HKL.out, List.map_drop, List.map_append, hy]
      rfl
    · exact hd.imp (fun b hb => hb.2)
    · rcases List.mem_append.1 (List.mem_of_mem_drop hx) with hx | hx
      · exact ((HA.out x hx).below hbf (fun _ h => h)).imp (fun b hb => Nat.lt_of_lt_of_le hb hbf.size)
      · obtain rfl : x = y := List.mem_singleton.1 hx
        subst hy
        have hk : Blk w4 w3.heap.size #[.int .u64 s.hi, .int .u64 s.lo, .int .u64 s.id, .int .u64 s.up, .string s.name, .int .i64 s.status, .int .i64 s.seq, .int .i64 s.kids, .bool s.shadow, .int .i64 s.start, .int .i64 s.stop] 27 := (Blk.new w3 _ _).only honly4 (fun hm => by have := (hbl1 _ hm).2; omega)
        refine (rows_of_blk (l := [s]) (enc := Sp.enc) (k := 11) (fun _ => rfl) hk rfl (by show 1 ≤ maxLen; decide)).imp (fun b hb => ?_)
        subst hb
        omega)
  have hr' : max (0 : Int) ((l.length : Int) + 1 - max 1 (min room 32)) = (gn : Int) := by rw [← hr]; simp
  have hw7 : IntKind.i64.wrap (((l.length : Int) + 1) - max 1 (min room 32)) = ((l.length : Int) + 1) - max 1 (min room 32) := by rw [IntKind.wrap_i64]; omega
  have HGN := hid hgn
  clear y0 y1 y2 y3 y4 y5 y6 y7 y8 y9 y10 hown4 honly4 hmv4 HO3 HK3 hr hgn HKL HA HROW HR3
  have k0 : (0 : Int) ≤ (gn : Int) := by omega
  have k1 : (gn : Int) ≤ (l.length : Int) + 1 := by omega
  have k2 : (gn : Int) ≤ (cap4 : Int) := by omega
  have k3 : ¬ cap4 = gn := by omega
  have k4 : (l.length : Int) + 1 ≤ (cap4 : Int) := by omega
  go_wp2_with fail
  go_ret2
  exact ⟨_, rfl, _, _, _, by rw [HGN.out]; rfl, HFIN.out⟩
theorem radd_any (v : Value) (l : List Kq) (room : Int) (s : Sp) (W : World) (h : RowsOf (· < W.heap.size) Kq.enc 5 W v l) (hl : l.length ≤ 100000) (ha : ∀ x ∈ l, x.At (· < W.heap.size) W) (hps : ∀ x ∈ l, x.sp.length ≤ 1000000) :
    Calls Try.prog 10 #[v, .int .i64 room, .agg #[.int .u64 s.hi, .int .u64 s.lo, .int .u64 s.id, .int .u64 s.up, .string s.name, .int .i64 s.status, .int .i64 s.seq, .int .i64 s.kids, .bool s.shadow, .int .i64 s.start, .int .i64 s.stop]] W (Ret (AddQ W (Kp.add (l.map Kq.core) room s) (Kp.gone (l.map Kq.core) room s))) := by
  by_cases hix : ix (l.map Kq.core) s.hi s.lo < l.length
  · rw [gone_hit hix]
    exact radd_hit v l room s W h hl ha hps hix
  · rw [gone_miss hix]
    exact radd_miss v l room s W h hl ha hix
end C30
end Go.Proofs.Ytdamnbldimompaa
