/- Walks of layer 30 (store): a span more, of a trace that is there; no condition. -/
import Derived.Test.YtdamnbldimompaaI30
namespace Go.Proofs.Ytdamnbldimompaa
open Go.RowKit Go.Peri
open Gen (flat_set set_mid get_mid map_take_snoc owns_at owns_num owns_le owns_below owns_form)
namespace C30
open Kp (ix ixS)
/-- Traces, wherever memory has grown. -/
def AddR (W : World) (kl : List Kp) (a : Option Addr) (n cap : Nat) (w' : World) : Prop :=
  ∃ l1 : List Kq, l1.length = n ∧ l1.map Kq.core = kl ∧ Below W.heap.size W w' ∧ RowsOf (· < w'.heap.size) Kq.enc 5 w' (.slice a n cap) l1 ∧ ∀ x ∈ l1, x.At (· < w'.heap.size) w'
def AddQ (W : World) (kl : List Kp) (gone : Nat) (v : Value) (w' : World) : Prop := ∃ a n cap, v = .tuple #[.slice a n cap, .int .i64 gone] ∧ AddR W kl a n cap w'
theorem AddR.drew {W : World} {kl : List Kp} {a : Option Addr} {n cap : Nat} {w' : World} (h : AddR W kl a n cap w') : AddR W kl a n cap w'.drew := by
  obtain ⟨l1, h1, h2, h3, h4, h5⟩ := h
  exact ⟨l1, h1, h2, h3.drew, h4, h5⟩
theorem rows_len {p : Nat → Prop} {w : World} {a : Option Addr} {n cap : Nat} {l : List Kq} (hn : l.length = n) (h : RowsOf p Kq.enc 5 w (.slice a l.length cap) l) : RowsOf p Kq.enc 5 w (.slice a n cap) l := by rw [← hn]; exact h
theorem put_fin {W w2 w3 : World} {base g cap n i : Nat} {l1 : List Kq} {x : Kq} {s : Sp} (hb : Below W.heap.size W w2) (hbase : W.heap.size ≤ base) (hcop : Cop base w2 (.slice (some ⟨g, 0, none⟩) n cap) l1) (hlen : l1.length = n) (hi : i < l1.length) (hx : l1[i] = x) (hg : base ≤ g) (hp : PutQ base g cap n i l1 x s w2 w3) : AddR W ((l1.map Kq.core).set i (Kp.put x.core s)) (some ⟨g, 0, none⟩) n cap w3 := by
  obtain ⟨x', hc, ho, hown, hox, hmv⟩ := hp
  have hxm : x ∈ l1 := by rw [← hx]; exact List.getElem_mem hi
  have hl : (l1.set i x').length = n := by rw [List.length_set]; exact hlen
  refine ⟨l1.set i x', hl, by rw [List.map_set, hc], ?_, ?_, fun y hy => ?_⟩
  · refine hb.trans (ho.below hb.size (fun b hb => ?_))
    rcases List.mem_cons.1 hb with rfl | hb
    · omega
    · have := ((hcop.own x hxm).bd b hb).1
      omega
  · refine rows_len hl (RowsOf.imp (p := fun b => base ≤ b ∧ b < w3.heap.size) (RowsOf.of_owns (e := 34) Kq.enc_length (by rw [hl]; exact hown)) (fun b hb => hb.2))
  · obtain ⟨j, hj, rfl⟩ := List.getElem_of_mem hy
    rw [List.getElem_set]
    split
    · exact RowsOf.imp (RowsOf.of_owns Sp.enc_length hox) (fun b hb => hb.2)
    · rename_i hij
      have hj2 : j < l1.length := by rw [List.length_set] at hj; exact hj
      have hd : Disj (kBlk l1[j]) (g :: kBlk x) := by
        intro b hb hm
        rcases List.mem_cons.1 hm with rfl | hm
        · exact hcop.far _ (List.getElem_mem hj2) b hb (by simp [blocks, Value.ownBlock])
        · have hpw := List.pairwise_iff_getElem.1 hcop.apart
          rcases Nat.lt_or_ge j i with h | h
          · exact hpw j i hj2 hi h b hb (by rw [hx]; exact hm)
          · exact hpw i j hi hj2 (by omega) b (by rw [hx]; exact hm) hb
      exact RowsOf.imp (RowsOf.of_owns Sp.enc_length ((hcop.own _ (List.getElem_mem hj2)).keep ho hd)) (fun b hb => hb.2)
theorem Cop.below {base : Nat} {w w' : World} {v : Value} {l1 : List Kq} (h : Cop base w v l1) (hb : Below w.heap.size w w') : Cop base w' v l1 := ⟨fun x hx => owns_below (h.own x hx) hb, h.far, h.apart⟩
set_option maxRecDepth 100000 in
set_option maxHeartbeats 8000000 in
theorem add_hit (v : Value) (l : List Kq) (room : Int) (s : Sp) (W : World) (h : RowsOf (· < W.heap.size) Kq.enc 5 W v l) (hl : l.length ≤ 1000000) (ha : ∀ x ∈ l, x.At (· < W.heap.size) W) (hps : ∀ x ∈ l, x.sp.length ≤ 1000000) (hix : ix (l.map Kq.core) s.hi s.lo < l.length) :
    Calls Try.prog 9 #[v, .int .i64 room, .agg #[.int .u64 s.hi, .int .u64 s.lo, .int .u64 s.id, .int .u64 s.up, .string s.name, .int .i64 s.status, .int .i64 s.seq, .int .i64 s.kids, .bool s.shadow, .int .i64 s.start, .int .i64 s.stop]] W (Ret (AddQ W (Kp.add (l.map Kq.core) room s) 0)) := by
  obtain ⟨W0, hW0⟩ : ∃ b, b = W.alloc (.cells #[.int .u64 s.hi, .int .u64 s.lo, .int .u64 s.id, .int .u64 s.up, .string s.name, .int .i64 s.status, .int .i64 s.seq, .int .i64 s.kids, .bool s.shadow, .int .i64 s.start, .int .i64 s.stop] 27) := ⟨_, rfl⟩
  have hb0 : Below W.heap.size W W0 := by rw [hW0]; go_grown
  have hk0 : Blk W0 W.heap.size #[.int .u64 s.hi, .int .u64 s.lo, .int .u64 s.id, .int .u64 s.up, .string s.name, .int .i64 s.status, .int .i64 s.seq, .int .i64 s.kids, .bool s.shadow, .int .i64 s.start, .int .i64 s.stop] 27 := by rw [hW0]; exact Blk.new _ _ _
  have hs0 : W0.heap.size = W.heap.size + 1 := by rw [hW0]; simp
  have HC := hid (copied_any (p := (· < W.heap.size)) v l W0 (h.below hb0 (fun _ h => h)) (fun b hb => by omega) hl (fun x hx => ((ha x hx).below hb0 (fun _ h => h)).imp (fun b hb => by omega)) hps)
  have HB0 := hid hb0
  have HK0 := hid hk0
  have HS0 := hid hs0
  have HPS := hid hps
  obtain ⟨a, cap, rfl⟩ : ∃ a cap, v = .slice a l.length cap := by
    obtain ⟨a, cap, e, _⟩ := h
    exact ⟨a, cap, e⟩
  have HKL : Hid (Kp.add (l.map Kq.core) room s = (l.map Kq.core).set (ix (l.map Kq.core) s.hi s.lo) (Kp.put ((l.map Kq.core)[ix (l.map Kq.core) s.hi s.lo]'(by rw [List.length_map]; exact hix)) s)) := hid (by
    unfold Kp.add
    rw [dif_pos (show ix (l.map Kq.core) s.hi s.lo < (l.map Kq.core).length by rw [List.length_map]; exact hix)])
  have HIX := hid hix
  rw [hW0] at HC
  have HW0 := hid hW0
  clear h ha hps hb0 hk0 hs0 hW0
  go_enter Try.func9, Try.ntmps9
  go_wp2_with fail
  refine HC.out.mono ?_
  rw [← HW0.out]
  rintro e w1 ⟨v1, rfl, l1, hc1, hb1, hown, hcop⟩
  have hl1 : l1.length = l.length := by
    have := congrArg List.length hc1
    simpa using this
  obtain ⟨a1, cap1, rfl⟩ := owns_form hown
  obtain ⟨k, hk⟩ : ∃ k, ix (l1.map Kq.core) s.hi s.lo = k := ⟨_, rfl⟩
  have hkl : k < l.length := by rw [← hk, hc1]; exact HIX.out
  have hat : atK l1 s.hi s.lo = k := by unfold atK; rw [hk, if_pos (by omega)]
  obtain ⟨g, cap2, e2, hg1, hg2⟩ := owns_at hown (by omega)
  cases e2
  obtain ⟨x, hx⟩ : ∃ x, l1[k]'(by omega) = x := ⟨_, rfl⟩
  have hxm : x ∈ l1 := by rw [← hx]; exact List.getElem_mem _
  have hxl : x.sp.length ≤ 1000000 := by
    have hm : x.core ∈ l.map Kq.core := by rw [← hc1]; exact List.mem_map_of_mem hxm
    obtain ⟨y, hy, hyx⟩ := List.mem_map.1 hm
    have := HPS.out y hy
    have e : y.sp = x.sp := congrArg Kp.sp hyx
    rw [← e]; exact this
  have HK1 := hid (HK0.out.later hb1)
  have HF := hid (find_any (p := fun b => W0.heap.size ≤ b ∧ b < w1.heap.size) (.slice (some ⟨g, 0, none⟩) l.length cap1) l1 s.hi s.lo k w1 (rows_len hl1 (RowsOf.of_owns Kq.enc_length (by rw [hl1]; exact hown))) (fun b hb => hb.2) (by omega) hat)
  have HB1 := hid (HB0.out.trans (hb1.mono HB0.out.size))
  have HOW := hid hown
  have HCP := hid hcop
  have hgW : W.heap.size < g := by have := HS0.out; omega
  have HFIN : Hid (∀ w2, Below w1.heap.size w1 w2 → Calls Try.prog 24 #[.pointer (some ⟨g, k * 5, none⟩), .agg #[.int .u64 s.hi, .int .u64 s.lo, .int .u64 s.id, .int .u64 s.up, .string s.name, .int .i64 s.status, .int .i64 s.seq, .int .i64 s.kids, .bool s.shadow, .int .i64 s.start, .int .i64 s.stop]] w2 fun e w3 => e = .returned (.tuple #[]) ∧ Hid (AddR W (Kp.add (l.map Kq.core) room s) (some ⟨g, 0, none⟩) l.length cap1 w3)) := hid (fun w2 hb2 => by
    have hbb := HB1.out.trans (hb2.mono HB1.out.size)
    have hbase : W0.heap.size ≤ w2.heap.size := Nat.le_trans hb1.size hb2.size
    refine (put_any W0.heap.size g cap1 l.length k l1 x s w2 (owns_below HOW.out hb2) hl1 (by omega) hx (owns_below (hcop.own x hxm) hb2) (fun hm => hcop.far x hxm g hm (by simp [blocks, Value.ownBlock])) (Nat.lt_of_lt_of_le hg2 hb2.size) hbase hxl).mono ?_
    rintro e w3 ⟨rfl, hp⟩
    refine ⟨rfl, ?_⟩
    have := put_fin hbb (by have := HS0.out; omega) (HCP.out.below hb2) hl1 (by omega) hx hg1 hp.out
    rw [HKL.out]
    have e1 : (l.map Kq.core).set (ix (l.map Kq.core) s.hi s.lo) (Kp.put ((l.map Kq.core)[ix (l.map Kq.core) s.hi s.lo]'(by rw [List.length_map]; exact HIX.out)) s) = (l1.map Kq.core).set k (Kp.put x.core s) := by
      have e3 : ∀ (m : List Kp) (h1 : m = l1.map Kq.core) (h2 : ix m s.hi s.lo < m.length), m.set (ix m s.hi s.lo) (Kp.put m[ix m s.hi s.lo] s) = (l1.map Kq.core).set k (Kp.put x.core s) := by
        intro m h1 h2
        subst h1
        simp only [List.getElem_map]
        simp only [hk, hx]
      exact e3 _ hc1.symm _
    rw [e1]
    exact this)
  clear hb1 hown hcop HC HK0 hxm hx hxl hc1 hl1 hk hat HB0 HKL HPS
  clear hix
  have z0 : w1.cell? ⟨W.heap.size, 0, none⟩ = some (.int .u64 s.hi) := HK1.out.cell 0
  have z1 : w1.cell? ⟨W.heap.size, 1, none⟩ = some (.int .u64 s.lo) := HK1.out.cell 1
  have hWl := HK1.out.lt
  generalize l.length = n at *
  go_wp2_with fail
  refine HF.out.mono ?_
  rintro e w2 ⟨rfl, hb2⟩
  have HK2 := hid (HK1.out.later hb2)
  have HB2 := hid hb2
  clear hb2 z0 z1
  obtain ⟨y0, y1, y2, y3, y4, y5, y6, y7, y8, y9, y10, -⟩ := blk11 HK2.out
  have hWl2 := HK2.out.lt
  have KEEP : Hid (∀ w', Below w2.heap.size w2 w' → w'.cell? ⟨W.heap.size, 0, none⟩ = some (.int .u64 s.hi) ∧ w'.cell? ⟨W.heap.size, 1, none⟩ = some (.int .u64 s.lo) ∧ w'.cell? ⟨W.heap.size, 2, none⟩ = some (.int .u64 s.id) ∧ w'.cell? ⟨W.heap.size, 3, none⟩ = some (.int .u64 s.up) ∧ w'.cell? ⟨W.heap.size, 4, none⟩ = some (.string s.name) ∧ w'.cell? ⟨W.heap.size, 5, none⟩ = some (.int .i64 s.status) ∧ w'.cell? ⟨W.heap.size, 6, none⟩ = some (.int .i64 s.seq) ∧ w'.cell? ⟨W.heap.size, 7, none⟩ = some (.int .i64 s.kids) ∧ w'.cell? ⟨W.heap.size, 8, none⟩ = some (.bool s.shadow) ∧ w'.cell? ⟨W.heap.size, 9, none⟩ = some (.int .i64 s.start) ∧ w'.cell? ⟨W.heap.size, 10, none⟩ = some (.int .i64 s.stop)) := hid (fun w' hb =>
    have hh := blk11 (HK2.out.later hb)
    ⟨hh.1, hh.2.1, hh.2.2.1, hh.2.2.2.1, hh.2.2.2.2.1, hh.2.2.2.2.2.1, hh.2.2.2.2.2.2.1, hh.2.2.2.2.2.2.2.1, hh.2.2.2.2.2.2.2.2.1, hh.2.2.2.2.2.2.2.2.2.1, hh.2.2.2.2.2.2.2.2.2.2.1⟩)
  have i1 : (0 : Int) ≤ (k : Int) := by omega
  have i2 : (k : Int) < (n : Int) := by omega
  have HFD := hid (HFIN.out w2.drew HB2.out.drew)
  clear HF HOW HCP HIX
  go_wp2_with fail
  refine wp_region_still_tail 4 (by kernel_rfl) (by kernel_rfl) ?_
  simp only [List.take_succ_cons, List.take_zero, List.drop_succ_cons, List.drop_zero]
  repeat still_step
  refine wpStill_nil ?_
  change wpList _ _ _ _ _ w2.drew
  go_wp2_with fail
  refine HFD.out.mono ?_
  rintro e w3 ⟨rfl, hr⟩
  clear y0 y1 y2 y3 y4 y5 y6 y7 y8 y9 y10
  go_wp2_with fail
  go_ret2
  exact ⟨_, rfl, _, _, _, rfl, hr.out⟩
end C30
end Go.Proofs.Ytdamnbldimompaa
