/- Walks of layer 16 (decide): what is done with a request, by the document; no condition. -/
import Derived.Test.YtpamnknfccmgcaaG16
namespace Go.Proofs.Ytpamnknfccmgcaa
open Go.RowKit Go.Peri
namespace C16
set_option maxRecDepth 100000 in
set_option maxHeartbeats 4000000 in
theorem rof_none {B : Nat} (n : Int) (l : List Rl) (a : Option Addr) (cap : Nat) (f : ByteArray) (m h p b : ByteArray) (hs : List Hd) (a0 : Option Addr) (cap0 : Nat) (W : World) (ht : TabV W B l a cap f) (hq : ReqV W B m h p b hs a0 cap0) (hB : B ≤ W.heap.size) (hn : hs.length ≤ 1000000) (hps : ∀ r ∈ l, r.preds.length ≤ 1000000000) (x0 x1 x2 : Int) (sh : Bool) (hr : lookR m h p hs l = -1) :
    Calls Try.prog 93 #[.agg #[.int .i64 n, .slice a l.length cap, .string f], .agg #[.string m, .string h, .string p, .slice a0 hs.length cap0, .string b], .agg #[.int .i64 x0, .int .i64 x1, .int .i64 x2], .bool sh] W fun e w' => e = .returned (.agg #[.int .i64 0, .int .i64 (-1), .string ByteArray.empty, .int .i64 404, .int .i64 0, .string ByteArray.empty]) ∧ Below W.heap.size W w' := by
  have HA := hid (fun w' (hw : Below W.heap.size W w') => rlook_any n l a cap f m h p b hs a0 cap0 (-1) w' (ht.below (hw.mono hB)) (hq.below (hw.mono hB)) (Nat.le_trans hB hw.size) hn hps hr)
  have HB0 : Hid (Below W.heap.size W ((((W.alloc (.cells #[.int .i64 n, .slice a l.length cap, .string f] 83)).alloc (.cells #[.string m, .string h, .string p, .slice a0 hs.length cap0, .string b] 59)).alloc (.cells #[.int .i64 x0, .int .i64 x1, .int .i64 x2] 94)).alloc (.cells #[.int .i64 0, .int .i64 0, .string ByteArray.empty, .int .i64 0, .int .i64 0, .string ByteArray.empty] 96))) := by show Below _ _ _; go_grown
  have HK2 := hid ((Blk.new' ((W.alloc (.cells #[.int .i64 n, .slice a l.length cap, .string f] 83)).alloc (.cells #[.string m, .string h, .string p, .slice a0 hs.length cap0, .string b] 59)) #[.int .i64 x0, .int .i64 x1, .int .i64 x2] 94 (n := W.heap.size + 2) (by simp)).alloc (.cells #[.int .i64 0, .int .i64 0, .string ByteArray.empty, .int .i64 0, .int .i64 0, .string ByteArray.empty] 96))
  have HK3 := hid (Blk.new' (((W.alloc (.cells #[.int .i64 n, .slice a l.length cap, .string f] 83)).alloc (.cells #[.string m, .string h, .string p, .slice a0 hs.length cap0, .string b] 59)).alloc (.cells #[.int .i64 x0, .int .i64 x1, .int .i64 x2] 94)) #[.int .i64 0, .int .i64 0, .string ByteArray.empty, .int .i64 0, .int .i64 0, .string ByteArray.empty] 96 (n := W.heap.size + 3) (by simp))
  clear ht hq hps hr
  go_enter Try.func93, Try.ntmps93
  go_wp2_with fail
  refine (HA.out _ HB0.out).mono ?_
  rintro e w1 ⟨rfl, hb1⟩
  have HB1 := hid (HB0.out.trans (hb1.mono HB0.out.size))
  have hk := HK3.out.later hb1
  have d0 : w1.cell? ⟨W.heap.size + 3, 0, none⟩ = some (.int .i64 0) := hk.cell 0
  have df0 := hk.free 0
  have d1 : w1.cell? ⟨W.heap.size + 3, 1, none⟩ = some (.int .i64 0) := hk.cell 1
  have df1 := hk.free 1
  have d2 : w1.cell? ⟨W.heap.size + 3, 2, none⟩ = some (.string ByteArray.empty) := hk.cell 2
  have df2 := hk.free 2
  have d3 : w1.cell? ⟨W.heap.size + 3, 3, none⟩ = some (.int .i64 0) := hk.cell 3
  have df3 := hk.free 3
  have d4 : w1.cell? ⟨W.heap.size + 3, 4, none⟩ = some (.int .i64 0) := hk.cell 4
  have df4 := hk.free 4
  have d5 : w1.cell? ⟨W.heap.size + 3, 5, none⟩ = some (.string ByteArray.empty) := hk.cell 5
  have df5 := hk.free 5
  have hlt := hk.lt
  clear hb1 hk HA
  go_wp2_with fail
  refine bodyPost_ret (by simp [results, Try.results93, go_sem, d0, d1, d2, d3, d4, d5]; try rfl) rfl ?_
  exact ⟨rfl, HB1.out.trans (by have := HB1.out.size; go_grown; all_goals omega)⟩
set_option maxRecDepth 100000 in
set_option maxHeartbeats 4000000 in
theorem rof_s {B : Nat} (n : Int) (l : List Rl) (a : Option Addr) (cap : Nat) (f : ByteArray) (m h p b : ByteArray) (hs : List Hd) (a0 : Option Addr) (cap0 : Nat) (W : World) (ht : TabV W B l a cap f) (hq : ReqV W B m h p b hs a0 cap0) (hB : B ≤ W.heap.size) (hn : hs.length ≤ 1000000) (hps : ∀ r ∈ l, r.preds.length ≤ 1000000000) (x0 x1 x2 : Int) (k : Nat) (hk0 : k < l.length) (hr : lookR m h p hs l = k) :
    Calls Try.prog 93 #[.agg #[.int .i64 n, .slice a l.length cap, .string f], .agg #[.string m, .string h, .string p, .slice a0 hs.length cap0, .string b], .agg #[.int .i64 x0, .int .i64 x1, .int .i64 x2], .bool true] W fun e w' => e = .returned (.agg #[.int .i64 2, .int .i64 k, .string l[k].target, .int .i64 0, .int .i64 0, .string ByteArray.empty]) ∧ Below W.heap.size W w' := by
  have HA := hid (fun w' (hw : Below W.heap.size W w') => rlook_any n l a cap f m h p b hs a0 cap0 k w' (ht.below (hw.mono hB)) (hq.below (hw.mono hB)) (Nat.le_trans hB hw.size) hn hps hr)
  have HB0 : Hid (Below W.heap.size W ((((W.alloc (.cells #[.int .i64 n, .slice a l.length cap, .string f] 83)).alloc (.cells #[.string m, .string h, .string p, .slice a0 hs.length cap0, .string b] 59)).alloc (.cells #[.int .i64 x0, .int .i64 x1, .int .i64 x2] 94)).alloc (.cells #[.int .i64 0, .int .i64 0, .string ByteArray.empty, .int .i64 0, .int .i64 0, .string ByteArray.empty] 96))) := by show Below _ _ _; go_grown
  have HK2 := hid ((Blk.new' ((W.alloc (.cells #[.int .i64 n, .slice a l.length cap, .string f] 83)).alloc (.cells #[.string m, .string h, .string p, .slice a0 hs.length cap0, .string b] 59)) #[.int .i64 x0, .int .i64 x1, .int .i64 x2] 94 (n := W.heap.size + 2) (by simp)).alloc (.cells #[.int .i64 0, .int .i64 0, .string ByteArray.empty, .int .i64 0, .int .i64 0, .string ByteArray.empty] 96))
  have HK3 := hid (Blk.new' (((W.alloc (.cells #[.int .i64 n, .slice a l.length cap, .string f] 83)).alloc (.cells #[.string m, .string h, .string p, .slice a0 hs.length cap0, .string b] 59)).alloc (.cells #[.int .i64 x0, .int .i64 x1, .int .i64 x2] 94)) #[.int .i64 0, .int .i64 0, .string ByteArray.empty, .int .i64 0, .int .i64 0, .string ByteArray.empty] 96 (n := W.heap.size + 3) (by simp))
  have HK0 := hid ((((Blk.new W #[.int .i64 n, .slice a l.length cap, .string f] 83).alloc (.cells #[.string m, .string h, .string p, .slice a0 hs.length cap0, .string b] 59)).alloc (.cells #[.int .i64 x0, .int .i64 x1, .int .i64 x2] 94)).alloc (.cells #[.int .i64 0, .int .i64 0, .string ByteArray.empty, .int .i64 0, .int .i64 0, .string ByteArray.empty] 96))
  obtain ⟨⟨a9, cap9, e9, hlc, hcm, _, hcell⟩, hlen, _, _⟩ := ht
  cases e9
  obtain ⟨bb, off, rfl, hpb, hc⟩ := hcell.resolve_left (by intro e; rw [e] at hk0; simp at hk0)
  have hbl0 : bb < W.heap.size := Nat.lt_of_lt_of_le hpb hB
  have HCC := hid (fun w' (hw : Below W.heap.size W w') => Rl.cells (fun j u hu => (hw.cell (p := ⟨bb, off + k * 10 + j, none⟩) hbl0).trans (hc k hk0 j u hu)))
  clear hcell hc hq hps hr
  generalize l[k] = y at HCC ⊢
  go_enter Try.func93, Try.ntmps93
  go_wp2_with fail
  refine (HA.out _ HB0.out).mono ?_
  rintro e w1 ⟨rfl, hb1⟩
  have HB1 := hid (HB0.out.trans (hb1.mono HB0.out.size))
  obtain ⟨c0, c1, c2, c3, c4, c5, c6, c7, c8, c9⟩ := HCC.out w1 HB1.out
  have hbl : bb < w1.heap.size := Nat.lt_of_lt_of_le hbl0 HB1.out.size
  have t1 : w1.cell? ⟨W.heap.size, 1, none⟩ = some (.slice (some ⟨bb, off, none⟩) l.length cap) := (HK0.out.later hb1).cell 1
  have hlt2 := (HK0.out.later hb1).lt
  have HQ2 := hid (HK2.out.later hb1)
  have HQ3 := hid (HK3.out.later hb1)
  clear hb1 HA HCC
  go_upto_region 5 with fail
  refine wp_gen ?_
  intro w2 hw2
  have hkr : Blk w2 w1.heap.size #[.int .i64 y.rank, .slice y.pa y.preds.length y.pcap, .string y.target, .int .i64 y.ap, .int .i64 y.as_, .int .i64 y.dp, .int .i64 y.dt, .int .i64 y.mp, .string y.mirror, .int .i64 y.sample] 67 := by rw [hw2]; exact Blk.new _ _ _
  have hk2 : Blk w2 (W.heap.size + 2) #[.int .i64 x0, .int .i64 x1, .int .i64 x2] 94 := by rw [hw2]; exact HQ2.out.alloc _
  have hk3 : Blk w2 (W.heap.size + 3) #[.int .i64 0, .int .i64 0, .string ByteArray.empty, .int .i64 0, .int .i64 0, .string ByteArray.empty] 96 := by rw [hw2]; exact HQ3.out.alloc _
  have HB2 : Hid (Below W.heap.size W w2) := by show Below _ _ _; rw [hw2]; exact HB1.out.alloc HB1.out.size _
  have r2 : w2.cell? ⟨w1.heap.size, 2, none⟩ = some (.string y.target) := hkr.cell 2
  have r3 : w2.cell? ⟨w1.heap.size, 3, none⟩ = some (.int .i64 y.ap) := hkr.cell 3
  have r4 : w2.cell? ⟨w1.heap.size, 4, none⟩ = some (.int .i64 y.as_) := hkr.cell 4
  have r5 : w2.cell? ⟨w1.heap.size, 5, none⟩ = some (.int .i64 y.dp) := hkr.cell 5
  have r6 : w2.cell? ⟨w1.heap.size, 6, none⟩ = some (.int .i64 y.dt) := hkr.cell 6
  have r7 : w2.cell? ⟨w1.heap.size, 7, none⟩ = some (.int .i64 y.mp) := hkr.cell 7
  have r8 : w2.cell? ⟨w1.heap.size, 8, none⟩ = some (.string y.mirror) := hkr.cell 8
  have q0 : w2.cell? ⟨W.heap.size + 2, 0, none⟩ = some (.int .i64 x0) := hk2.cell 0
  have q1 : w2.cell? ⟨W.heap.size + 2, 1, none⟩ = some (.int .i64 x1) := hk2.cell 1
  have q2 : w2.cell? ⟨W.heap.size + 2, 2, none⟩ = some (.int .i64 x2) := hk2.cell 2
  have HKR := hid hk3
  have hl1 := hkr.lt
  have hl2 := hk2.lt
  have hl3 := hk3.lt
  clear hw2 hkr hk2 HQ2 HQ3 c0 c1 c2 c3 c4 c5 c6 c7 c8 c9 hbl t1 hlt2
  clear hk3
  go_upto_region 12 with fail
  refine wp_gen ?_
  intro w3 hw3
  have hk : Blk w3 (W.heap.size + 3) #[.int .i64 0, .int .i64 0, .string ByteArray.empty, .int .i64 0, .int .i64 0, .string ByteArray.empty] 96 := by rw [hw3]; exact HKR.out.alloc _
  have hn : Blk w3 w2.heap.size #[.int .i64 2, .int .i64 k, .string y.target, .int .i64 0, .int .i64 0, .string ByteArray.empty] 96 := by rw [hw3]; exact Blk.new _ _ _
  have HB3 : Hid (Below W.heap.size W w3) := by show Below _ _ _; rw [hw3]; exact HB2.out.alloc HB2.out.size _
  have d0 : w3.cell? ⟨W.heap.size + 3, 0, none⟩ = some (.int .i64 0) := hk.cell 0
  have df0 := hk.free 0
  have d1 : w3.cell? ⟨W.heap.size + 3, 1, none⟩ = some (.int .i64 0) := hk.cell 1
  have df1 := hk.free 1
  have d2 : w3.cell? ⟨W.heap.size + 3, 2, none⟩ = some (.string ByteArray.empty) := hk.cell 2
  have df2 := hk.free 2
  have d3 : w3.cell? ⟨W.heap.size + 3, 3, none⟩ = some (.int .i64 0) := hk.cell 3
  have df3 := hk.free 3
  have d4 : w3.cell? ⟨W.heap.size + 3, 4, none⟩ = some (.int .i64 0) := hk.cell 4
  have df4 := hk.free 4
  have d5 : w3.cell? ⟨W.heap.size + 3, 5, none⟩ = some (.string ByteArray.empty) := hk.cell 5
  have df5 := hk.free 5
  have n0 : w3.cell? ⟨w2.heap.size, 0, none⟩ = some (.int .i64 2) := hn.cell 0
  have n1 : w3.cell? ⟨w2.heap.size, 1, none⟩ = some (.int .i64 k) := hn.cell 1
  have n2 : w3.cell? ⟨w2.heap.size, 2, none⟩ = some (.string y.target) := hn.cell 2
  have n3 : w3.cell? ⟨w2.heap.size, 3, none⟩ = some (.int .i64 0) := hn.cell 3
  have n4 : w3.cell? ⟨w2.heap.size, 4, none⟩ = some (.int .i64 0) := hn.cell 4
  have n5 : w3.cell? ⟨w2.heap.size, 5, none⟩ = some (.string ByteArray.empty) := hn.cell 5
  have hlt := hk.lt
  have hlt3 := hn.lt
  clear hw3 hk hn HKR q0 q1 q2 hl1 hl2 hl3 r2 r3 r4 r5 r6 r7 r8
  go_wp2_with fail
  refine bodyPost_ret (by simp [results, Try.results93, go_sem, d0, d1, d2, d3, d4, d5]; try rfl) rfl ?_
  exact ⟨rfl, HB3.out.trans (by have := HB3.out.size; go_grown; all_goals omega)⟩
set_option maxRecDepth 100000 in
set_option maxHeartbeats 4000000 in
theorem rof_a {B : Nat} (n : Int) (l : List Rl) (a : Option Addr) (cap : Nat) (f : ByteArray) (m h p b : ByteArray) (hs : List Hd) (a0 : Option Addr) (cap0 : Nat) (W : World) (ht : TabV W B l a cap f) (hq : ReqV W B m h p b hs a0 cap0) (hB : B ≤ W.heap.size) (hn : hs.length ≤ 1000000) (hps : ∀ r ∈ l, r.preds.length ≤ 1000000000) (x0 x1 x2 : Int) (k : Nat) (hk0 : k < l.length) (hr : lookR m h p hs l = k) (hf0 : firesR x0 l[k].ap = true) :
    Calls Try.prog 93 #[.agg #[.int .i64 n, .slice a l.length cap, .string f], .agg #[.string m, .string h, .string p, .slice a0 hs.length cap0, .string b], .agg #[.int .i64 x0, .int .i64 x1, .int .i64 x2], .bool false] W fun e w' => e = .returned (.agg #[.int .i64 1, .int .i64 k, .string l[k].target, .int .i64 l[k].as_, .int .i64 0, .string ByteArray.empty]) ∧ Below W.heap.size W w' := by
  have HA := hid (fun w' (hw : Below W.heap.size W w') => rlook_any n l a cap f m h p b hs a0 cap0 k w' (ht.below (hw.mono hB)) (hq.below (hw.mono hB)) (Nat.le_trans hB hw.size) hn hps hr)
  have HF0 := hid (fun w => rfires_any x0 l[k].ap true w hf0)
  have HB0 : Hid (Below W.heap.size W ((((W.alloc (.cells #[.int .i64 n, .slice a l.length cap, .string f] 83)).alloc (.cells #[.string m, .string h, .string p, .slice a0 hs.length cap0, .string b] 59)).alloc (.cells #[.int .i64 x0, .int .i64 x1, .int .i64 x2] 94)).alloc (.cells #[.int .i64 0, .int .i64 0, .string ByteArray.empty, .int .i64 0, .int .i64 0, .string ByteArray.empty] 96))) := by show Below _ _ _; go_grown
  have HK2 := hid ((Blk.new' ((W.alloc (.cells #[.int .i64 n, .slice a l.length cap, .string f] 83)).alloc (.cells #[.string m, .string h, .string p, .slice a0 hs.length cap0, .string b] 59)) #[.int .i64 x0, .int .i64 x1, .int .i64 x2] 94 (n := W.heap.size + 2) (by simp)).alloc (.cells #[.int .i64 0, .int .i64 0, .string ByteArray.empty, .int .i64 0, .int .i64 0, .string ByteArray.empty] 96))
  have HK3 := hid (Blk.new' (((W.alloc (.cells #[.int .i64 n, .slice a l.length cap, .string f] 83)).alloc (.cells #[.string m, .string h, .string p, .slice a0 hs.length cap0, .string b] 59)).alloc (.cells #[.int .i64 x0, .int .i64 x1, .int .i64 x2] 94)) #[.int .i64 0, .int .i64 0, .string ByteArray.empty, .int .i64 0, .int .i64 0, .string ByteArray.empty] 96 (n := W.heap.size + 3) (by simp))
  have HK0 := hid ((((Blk.new W #[.int .i64 n, .slice a l.length cap, .string f] 83).alloc (.cells #[.string m, .string h, .string p, .slice a0 hs.length cap0, .string b] 59)).alloc (.cells #[.int .i64 x0, .int .i64 x1, .int .i64 x2] 94)).alloc (.cells #[.int .i64 0, .int .i64 0, .string ByteArray.empty, .int .i64 0, .int .i64 0, .string ByteArray.empty] 96))
  obtain ⟨⟨a9, cap9, e9, hlc, hcm, _, hcell⟩, hlen, _, _⟩ := ht
  cases e9
  obtain ⟨bb, off, rfl, hpb, hc⟩ := hcell.resolve_left (by intro e; rw [e] at hk0; simp at hk0)
  have hbl0 : bb < W.heap.size := Nat.lt_of_lt_of_le hpb hB
  have HCC := hid (fun w' (hw : Below W.heap.size W w') => Rl.cells (fun j u hu => (hw.cell (p := ⟨bb, off + k * 10 + j, none⟩) hbl0).trans (hc k hk0 j u hu)))
  clear hcell hc hq hps hr hf0
  generalize l[k] = y at HCC HF0 ⊢
  go_enter Try.func93, Try.ntmps93
  go_wp2_with fail
  refine (HA.out _ HB0.out).mono ?_
  rintro e w1 ⟨rfl, hb1⟩
  have HB1 := hid (HB0.out.trans (hb1.mono HB0.out.size))
  obtain ⟨c0, c1, c2, c3, c4, c5, c6, c7, c8, c9⟩ := HCC.out w1 HB1.out
  have hbl : bb < w1.heap.size := Nat.lt_of_lt_of_le hbl0 HB1.out.size
  have t1 : w1.cell? ⟨W.heap.size, 1, none⟩ = some (.slice (some ⟨bb, off, none⟩) l.length cap) := (HK0.out.later hb1).cell 1
  have hlt2 := (HK0.out.later hb1).lt
  have HQ2 := hid (HK2.out.later hb1)
  have HQ3 := hid (HK3.out.later hb1)
  clear hb1 HA HCC
  go_upto_region 5 with fail
  refine wp_gen ?_
  intro w2 hw2
  have hkr : Blk w2 w1.heap.size #[.int .i64 y.rank, .slice y.pa y.preds.length y.pcap, .string y.target, .int .i64 y.ap, .int .i64 y.as_, .int .i64 y.dp, .int .i64 y.dt, .int .i64 y.mp, .string y.mirror, .int .i64 y.sample] 67 := by rw [hw2]; exact Blk.new _ _ _
  have hk2 : Blk w2 (W.heap.size + 2) #[.int .i64 x0, .int .i64 x1, .int .i64 x2] 94 := by rw [hw2]; exact HQ2.out.alloc _
  have hk3 : Blk w2 (W.heap.size + 3) #[.int .i64 0, .int .i64 0, .string ByteArray.empty, .int .i64 0, .int .i64 0, .string ByteArray.empty] 96 := by rw [hw2]; exact HQ3.out.alloc _
  have HB2 : Hid (Below W.heap.size W w2) := by show Below _ _ _; rw [hw2]; exact HB1.out.alloc HB1.out.size _
  have r2 : w2.cell? ⟨w1.heap.size, 2, none⟩ = some (.string y.target) := hkr.cell 2
  have r3 : w2.cell? ⟨w1.heap.size, 3, none⟩ = some (.int .i64 y.ap) := hkr.cell 3
  have r4 : w2.cell? ⟨w1.heap.size, 4, none⟩ = some (.int .i64 y.as_) := hkr.cell 4
  have r5 : w2.cell? ⟨w1.heap.size, 5, none⟩ = some (.int .i64 y.dp) := hkr.cell 5
  have r6 : w2.cell? ⟨w1.heap.size, 6, none⟩ = some (.int .i64 y.dt) := hkr.cell 6
  have r7 : w2.cell? ⟨w1.heap.size, 7, none⟩ = some (.int .i64 y.mp) := hkr.cell 7
  have r8 : w2.cell? ⟨w1.heap.size, 8, none⟩ = some (.string y.mirror) := hkr.cell 8
  have q0 : w2.cell? ⟨W.heap.size + 2, 0, none⟩ = some (.int .i64 x0) := hk2.cell 0
  have q1 : w2.cell? ⟨W.heap.size + 2, 1, none⟩ = some (.int .i64 x1) := hk2.cell 1
  have q2 : w2.cell? ⟨W.heap.size + 2, 2, none⟩ = some (.int .i64 x2) := hk2.cell 2
  have HKR := hid hk3
  have hl1 := hkr.lt
  have hl2 := hk2.lt
  have hl3 := hk3.lt
  clear hw2 hkr hk2 HQ2 HQ3 c0 c1 c2 c3 c4 c5 c6 c7 c8 c9 hbl t1 hlt2
  go_wp2_with fail
  refine (HF0.out _).mono ?_
  rintro e w' ⟨rfl, rfl⟩
  have d0 : w2.cell? ⟨W.heap.size + 3, 0, none⟩ = some (.int .i64 0) := hk3.cell 0
  have df0 := hk3.free 0
  have d1 : w2.cell? ⟨W.heap.size + 3, 1, none⟩ = some (.int .i64 0) := hk3.cell 1
  have df1 := hk3.free 1
  have d2 : w2.cell? ⟨W.heap.size + 3, 2, none⟩ = some (.string ByteArray.empty) := hk3.cell 2
  have df2 := hk3.free 2
  have d3 : w2.cell? ⟨W.heap.size + 3, 3, none⟩ = some (.int .i64 0) := hk3.cell 3
  have df3 := hk3.free 3
  have d4 : w2.cell? ⟨W.heap.size + 3, 4, none⟩ = some (.int .i64 0) := hk3.cell 4
  have df4 := hk3.free 4
  have d5 : w2.cell? ⟨W.heap.size + 3, 5, none⟩ = some (.string ByteArray.empty) := hk3.cell 5
  have df5 := hk3.free 5
  clear hk3 HKR
  go_wp2_with fail
  refine bodyPost_ret (by simp [results, Try.results93, go_sem, d0, d1, d2, d3, d4, d5]; try rfl) rfl ?_
  exact ⟨rfl, HB2.out.trans (by have := HB2.out.size; go_grown; all_goals omega)⟩
set_option maxRecDepth 100000 in
set_option maxHeartbeats 4000000 in
theorem rof_ff {B : Nat} (n : Int) (l : List Rl) (a : Option Addr) (cap : Nat) (f : ByteArray) (m h p b : ByteArray) (hs : List Hd) (a0 : Option Addr) (cap0 : Nat) (W : World) (ht : TabV W B l a cap f) (hq : ReqV W B m h p b hs a0 cap0) (hB : B ≤ W.heap.size) (hn : hs.length ≤ 1000000) (hps : ∀ r ∈ l, r.preds.length ≤ 1000000000) (x0 x1 x2 : Int) (k : Nat) (hk0 : k < l.length) (hr : lookR m h p hs l = k) (hf0 : firesR x0 l[k].ap = false) (hf1 : firesR x1 l[k].dp = false) (hf2 : firesR x2 l[k].mp = false) :
    Calls Try.prog 93 #[.agg #[.int .i64 n, .slice a l.length cap, .string f], .agg #[.string m, .string h, .string p, .slice a0 hs.length cap0, .string b], .agg #[.int .i64 x0, .int .i64 x1, .int .i64 x2], .bool false] W fun e w' => e = .returned (.agg #[.int .i64 2, .int .i64 k, .string l[k].target, .int .i64 0, .int .i64 0, .string ByteArray.empty]) ∧ Below W.heap.size W w' := by
  have HA := hid (fun w' (hw : Below W.heap.size W w') => rlook_any n l a cap f m h p b hs a0 cap0 k w' (ht.below (hw.mono hB)) (hq.below (hw.mono hB)) (Nat.le_trans hB hw.size) hn hps hr)
  have HF0 := hid (fun w => rfires_any x0 l[k].ap false w hf0)
  have HF1 := hid (fun w => rfires_any x1 l[k].dp false w hf1)
  have HF2 := hid (fun w => rfires_any x2 l[k].mp false w hf2)
  have HB0 : Hid (Below W.heap.size W ((((W.alloc (.cells #[.int .i64 n, .slice a l.length cap, .string f] 83)).alloc (.cells #[.string m, .string h, .string p, .slice a0 hs.length cap0, .string b] 59)).alloc (.cells #[.int .i64 x0, .int .i64 x1, .int .i64 x2] 94)).alloc (.cells #[.int .i64 0, .int .i64 0, .string ByteArray.empty, .int .i64 0, .int .i64 0, .string ByteArray.empty] 96))) := by show Below _ _ _; go_grown
  have HK2 := hid ((Blk.new' ((W.alloc (.cells #[.int .i64 n, .slice a l.length cap, .string f] 83)).alloc (.cells #[.string m, .string h, .string p, .slice a0 hs.length cap0, .string b] 59)) #[.int .i64 x0, .int .i64 x1, .int .i64 x2] 94 (n := W.heap.size + 2) (by simp)).alloc (.cells #[.int .i64 0, .int .i64 0, .string ByteArray.empty, .int .i64 0, .int .i64 0, .string ByteArray.empty] 96))
  have HK3 := hid (Blk.new' (((W.alloc (.cells #[.int .i64 n, .slice a l.length cap, .string f] 83)).alloc (.cells #[.string m, .string h, .string p, .slice a0 hs.length cap0, .string b] 59)).alloc (.cells #[.int .i64 x0, .int .i64 x1, .int .i64 x2] 94)) #[.int .i64 0, .int .i64 0, .string ByteArray.empty, .int .i64 0, .int .i64 0, .string ByteArray.empty] 96 (n := W.heap.size + 3) (by simp))
  have HK0 := hid ((((Blk.new W #[.int .i64 n, .slice a l.length cap, .string f] 83).alloc (.cells #[.string m, .string h, .string p, .slice a0 hs.length cap0, .string b] 59)).alloc (.cells #[.int .i64 x0, .int .i64 x1, .int .i64 x2] 94)).alloc (.cells #[.int .i64 0, .int .i64 0, .string ByteArray.empty, .int .i64 0, .int .i64 0, .string ByteArray.empty] 96))
  obtain ⟨⟨a9, cap9, e9, hlc, hcm, _, hcell⟩, hlen, _, _⟩ := ht
  cases e9
  obtain ⟨bb, off, rfl, hpb, hc⟩ := hcell.resolve_left (by intro e; rw [e] at hk0; simp at hk0)
  have hbl0 : bb < W.heap.size := Nat.lt_of_lt_of_le hpb hB
  have HCC := hid (fun w' (hw : Below W.heap.size W w') => Rl.cells (fun j u hu => (hw.cell (p := ⟨bb, off + k * 10 + j, none⟩) hbl0).trans (hc k hk0 j u hu)))
  clear hcell hc hq hps hr hf0 hf1 hf2
  generalize l[k] = y at HCC HF0 HF1 HF2 ⊢
  go_enter Try.func93, Try.ntmps93
  go_wp2_with fail
  refine (HA.out _ HB0.out).mono ?_
  rintro e w1 ⟨rfl, hb1⟩
  have HB1 := hid (HB0.out.trans (hb1.mono HB0.out.size))
  obtain ⟨c0, c1, c2, c3, c4, c5, c6, c7, c8, c9⟩ := HCC.out w1 HB1.out
  have hbl : bb < w1.heap.size := Nat.lt_of_lt_of_le hbl0 HB1.out.size
  have t1 : w1.cell? ⟨W.heap.size, 1, none⟩ = some (.slice (some ⟨bb, off, none⟩) l.length cap) := (HK0.out.later hb1).cell 1
  have hlt2 := (HK0.out.later hb1).lt
  have HQ2 := hid (HK2.out.later hb1)
  have HQ3 := hid (HK3.out.later hb1)
  clear hb1 HA HCC
  go_upto_region 5 with fail
  refine wp_gen ?_
  intro w2 hw2
  have hkr : Blk w2 w1.heap.size #[.int .i64 y.rank, .slice y.pa y.preds.length y.pcap, .string y.target, .int .i64 y.ap, .int .i64 y.as_, .int .i64 y.dp, .int .i64 y.dt, .int .i64 y.mp, .string y.mirror, .int .i64 y.sample] 67 := by rw [hw2]; exact Blk.new _ _ _
  have hk2 : Blk w2 (W.heap.size + 2) #[.int .i64 x0, .int .i64 x1, .int .i64 x2] 94 := by rw [hw2]; exact HQ2.out.alloc _
  have hk3 : Blk w2 (W.heap.size + 3) #[.int .i64 0, .int .i64 0, .string ByteArray.empty, .int .i64 0, .int .i64 0, .string ByteArray.empty] 96 := by rw [hw2]; exact HQ3.out.alloc _
  have HB2 : Hid (Below W.heap.size W w2) := by show Below _ _ _; rw [hw2]; exact HB1.out.alloc HB1.out.size _
  have r2 : w2.cell? ⟨w1.heap.size, 2, none⟩ = some (.string y.target) := hkr.cell 2
  have r3 : w2.cell? ⟨w1.heap.size, 3, none⟩ = some (.int .i64 y.ap) := hkr.cell 3
  have r4 : w2.cell? ⟨w1.heap.size, 4, none⟩ = some (.int .i64 y.as_) := hkr.cell 4
  have r5 : w2.cell? ⟨w1.heap.size, 5, none⟩ = some (.int .i64 y.dp) := hkr.cell 5
  have r6 : w2.cell? ⟨w1.heap.size, 6, none⟩ = some (.int .i64 y.dt) := hkr.cell 6
  have r7 : w2.cell? ⟨w1.heap.size, 7, none⟩ = some (.int .i64 y.mp) := hkr.cell 7
  have r8 : w2.cell? ⟨w1.heap.size, 8, none⟩ = some (.string y.mirror) := hkr.cell 8
  have q0 : w2.cell? ⟨W.heap.size + 2, 0, none⟩ = some (.int .i64 x0) := hk2.cell 0
  have q1 : w2.cell? ⟨W.heap.size + 2, 1, none⟩ = some (.int .i64 x1) := hk2.cell 1
  have q2 : w2.cell? ⟨W.heap.size + 2, 2, none⟩ = some (.int .i64 x2) := hk2.cell 2
  have HKR := hid hk3
  have hl1 := hkr.lt
  have hl2 := hk2.lt
  have hl3 := hk3.lt
  clear hw2 hkr hk2 HQ2 HQ3 c0 c1 c2 c3 c4 c5 c6 c7 c8 c9 hbl t1 hlt2
  go_wp2_with fail
  refine (HF0.out _).mono ?_
  rintro e w' ⟨rfl, rfl⟩
  go_wp2_with fail
  refine (HF1.out _).mono ?_
  rintro e w' ⟨rfl, rfl⟩
  go_wp2_with fail
  refine (HF2.out _).mono ?_
  rintro e w' ⟨rfl, rfl⟩
  clear hk3
  go_upto_region 12 with fail
  refine wp_gen ?_
  intro w3 hw3
  have hk : Blk w3 (W.heap.size + 3) #[.int .i64 0, .int .i64 0, .string ByteArray.empty, .int .i64 0, .int .i64 0, .string ByteArray.empty] 96 := by rw [hw3]; exact HKR.out.alloc _
  have hn : Blk w3 w2.heap.size #[.int .i64 2, .int .i64 k, .string y.target, .int .i64 0, .int .i64 0, .string ByteArray.empty] 96 := by rw [hw3]; exact Blk.new _ _ _
  have HB3 : Hid (Below W.heap.size W w3) := by show Below _ _ _; rw [hw3]; exact HB2.out.alloc HB2.out.size _
  have d0 : w3.cell? ⟨W.heap.size + 3, 0, none⟩ = some (.int .i64 0) := hk.cell 0
  have df0 := hk.free 0
  have d1 : w3.cell? ⟨W.heap.size + 3, 1, none⟩ = some (.int .i64 0) := hk.cell 1
  have df1 := hk.free 1
  have d2 : w3.cell? ⟨W.heap.size + 3, 2, none⟩ = some (.string ByteArray.empty) := hk.cell 2
  have df2 := hk.free 2
  have d3 : w3.cell? ⟨W.heap.size + 3, 3, none⟩ = some (.int .i64 0) := hk.cell 3
  have df3 := hk.free 3
  have d4 : w3.cell? ⟨W.heap.size + 3, 4, none⟩ = some (.int .i64 0) := hk.cell 4
  have df4 := hk.free 4
  have d5 : w3.cell? ⟨W.heap.size + 3, 5, none⟩ = some (.string ByteArray.empty) := hk.cell 5
  have df5 := hk.free 5
  have n0 : w3.cell? ⟨w2.heap.size, 0, none⟩ = some (.int .i64 2) := hn.cell 0
  have n1 : w3.cell? ⟨w2.heap.size, 1, none⟩ = some (.int .i64 k) := hn.cell 1
  have n2 : w3.cell? ⟨w2.heap.size, 2, none⟩ = some (.string y.target) := hn.cell 2
  have n3 : w3.cell? ⟨w2.heap.size, 3, none⟩ = some (.int .i64 0) := hn.cell 3
  have n4 : w3.cell? ⟨w2.heap.size, 4, none⟩ = some (.int .i64 0) := hn.cell 4
  have n5 : w3.cell? ⟨w2.heap.size, 5, none⟩ = some (.string ByteArray.empty) := hn.cell 5
  have hlt := hk.lt
  have hlt3 := hn.lt
  clear hw3 hk hn HKR q0 q1 q2 hl1 hl2 hl3 r2 r3 r4 r5 r6 r7 r8
  go_wp2_with fail
  refine bodyPost_ret (by simp [results, Try.results93, go_sem, d0, d1, d2, d3, d4, d5]; try rfl) rfl ?_
  exact ⟨rfl, HB3.out.trans (by have := HB3.out.size; go_grown; all_goals omega)⟩
set_option maxRecDepth 100000 in
set_option maxHeartbeats 4000000 in
theorem rof_ft {B : Nat} (n : Int) (l : List Rl) (a : Option Addr) (cap : Nat) (f : ByteArray) (m h p b : ByteArray) (hs : List Hd) (a0 : Option Addr) (cap0 : Nat) (W : World) (ht : TabV W B l a cap f) (hq : ReqV W B m h p b hs a0 cap0) (hB : B ≤ W.heap.size) (hn : hs.length ≤ 1000000) (hps : ∀ r ∈ l, r.preds.length ≤ 1000000000) (x0 x1 x2 : Int) (k : Nat) (hk0 : k < l.length) (hr : lookR m h p hs l = k) (hf0 : firesR x0 l[k].ap = false) (hf1 : firesR x1 l[k].dp = false) (hf2 : firesR x2 l[k].mp = true) :
    Calls Try.prog 93 #[.agg #[.int .i64 n, .slice a l.length cap, .string f], .agg #[.string m, .string h, .string p, .slice a0 hs.length cap0, .string b], .agg #[.int .i64 x0, .int .i64 x1, .int .i64 x2], .bool false] W fun e w' => e = .returned (.agg #[.int .i64 2, .int .i64 k, .string l[k].target, .int .i64 0, .int .i64 0, .string l[k].mirror]) ∧ Below W.heap.size W w' := by
  have HA := hid (fun w' (hw : Below W.heap.size W w') => rlook_any n l a cap f m h p b hs a0 cap0 k w' (ht.below (hw.mono hB)) (hq.below (hw.mono hB)) (Nat.le_trans hB hw.size) hn hps hr)
  have HF0 := hid (fun w => rfires_any x0 l[k].ap false w hf0)
  have HF1 := hid (fun w => rfires_any x1 l[k].dp false w hf1)
  have HF2 := hid (fun w => rfires_any x2 l[k].mp true w hf2)
  have HB0 : Hid (Below W.heap.size W ((((W.alloc (.cells #[.int .i64 n, .slice a l.length cap, .string f] 83)).alloc (.cells #[.string m, .string h, .string p, .slice a0 hs.length cap0, .string b] 59)).alloc (.cells #[.int .i64 x0, .int .i64 x1, .int .i64 x2] 94)).alloc (.cells #[.int .i64 0, .int .i64 0, .string ByteArray.empty, .int .i64 0, .int .i64 0, .string ByteArray.empty] 96))) := by show Below _ _ _; go_grown
  have HK2 := hid ((Blk.new' ((W.alloc (.cells #[.int .i64 n, .slice a l.length cap, .string f] 83)).alloc (.cells #[.string m, .string h, .string p, .slice a0 hs.length cap0, .string b] 59)) #[.int .i64 x0, .int .i64 x1, .int .i64 x2] 94 (n := W.heap.size + 2) (by simp)).alloc (.cells #[.int .i64 0, .int .i64 0, .string ByteArray.empty, .int .i64 0, .int .i64 0, .string ByteArray.empty] 96))
  have HK3 := hid (Blk.new' (((W.alloc (.cells #[.int .i64 n, .slice a l.length cap, .string f] 83)).alloc (.cells #[.string m, .string h, .string p, .slice a0 hs.length cap0, .string b] 59)).alloc (.cells #[.int .i64 x0, .int .i64 x1, .int .i64 x2] 94)) #[.int .i64 0, .int .i64 0, .string ByteArray.empty, .int .i64 0, .int .i64 0, .string ByteArray.empty] 96 (n := W.heap.size + 3) (by simp))
  have HK0 := hid ((((Blk.new W #[.int .i64 n, .slice a l.length cap, .string f] 83).alloc (.cells #[.string m, .string h, .string p, .slice a0 hs.length cap0, .string b] 59)).alloc (.cells #[.int .i64 x0, .int .i64 x1, .int .i64 x2] 94)).alloc (.cells #[.int .i64 0, .int .i64 0, .string ByteArray.empty, .int .i64 0, .int .i64 0, .string ByteArray.empty] 96))
  obtain ⟨⟨a9, cap9, e9, hlc, hcm, _, hcell⟩, hlen, _, _⟩ := ht
  cases e9
  obtain ⟨bb, off, rfl, hpb, hc⟩ := hcell.resolve_left (by intro e; rw [e] at hk0; simp at hk0)
  have hbl0 : bb < W.heap.size := Nat.lt_of_lt_of_le hpb hB
  have HCC := hid (fun w' (hw : Below W.heap.size W w') => Rl.cells (fun j u hu => (hw.cell (p := ⟨bb, off + k * 10 + j, none⟩) hbl0).trans (hc k hk0 j u hu)))
  clear hcell hc hq hps hr hf0 hf1 hf2
  generalize l[k] = y at HCC HF0 HF1 HF2 ⊢
  go_enter Try.func93, Try.ntmps93
  go_wp2_with fail
  refine (HA.out _ HB0.out).mono ?_
  rintro e w1 ⟨rfl, hb1⟩
  have HB1 := hid (HB0.out.trans (hb1.mono HB0.out.size))
  obtain ⟨c0, c1, c2, c3, c4, c5, c6, c7, c8, c9⟩ := HCC.out w1 HB1.out
  have hbl : bb < w1.heap.size := Nat.lt_of_lt_of_le hbl0 HB1.out.size
  have t1 : w1.cell? ⟨W.heap.size, 1, none⟩ = some (.slice (some ⟨bb, off, none⟩) l.length cap) := (HK0.out.later hb1).cell 1
  have hlt2 := (HK0.out.later hb1).lt
  have HQ2 := hid (HK2.out.later hb1)
  have HQ3 := hid (HK3.out.later hb1)
  clear hb1 HA HCC
  go_upto_region 5 with fail
  refine wp_gen ?_
  intro w2 hw2
  have hkr : Blk w2 w1.heap.size #[.int .i64 y.rank, .slice y.pa y.preds.length y.pcap, .string y.target, .int .i64 y.ap, .int .i64 y.as_, .int .i64 y.dp, .int .i64 y.dt, .int .i64 y.mp, .string y.mirror, .int .i64 y.sample] 67 := by rw [hw2]; exact Blk.new _ _ _
  have hk2 : Blk w2 (W.heap.size + 2) #[.int .i64 x0, .int .i64 x1, .int .i64 x2] 94 := by rw [hw2]; exact HQ2.out.alloc _
  have hk3 : Blk w2 (W.heap.size + 3) #[.int .i64 0, .int .i64 0, .string ByteArray.empty, .int .i64 0, .int .i64 0, .string ByteArray.empty] 96 := by rw [hw2]; exact HQ3.out.alloc _
  have HB2 : Hid (Below W.heap.size W w2) := by show Below _ _ _; rw [hw2]; exact HB1.out.alloc HB1.out.size _
  have r2 : w2.cell? ⟨w1.heap.size, 2, none⟩ = some (.string y.target) := hkr.cell 2
  have r3 : w2.cell? ⟨w1.heap.size, 3, none⟩ = some (.int .i64 y.ap) := hkr.cell 3
  have r4 : w2.cell? ⟨w1.heap.size, 4, none⟩ = some (.int .i64 y.as_) := hkr.cell 4
  have r5 : w2.cell? ⟨w1.heap.size, 5, none⟩ = some (.int .i64 y.dp) := hkr.cell 5
  have r6 : w2.cell? ⟨w1.heap.size, 6, none⟩ = some (.int .i64 y.dt) := hkr.cell 6
  have r7 : w2.cell? ⟨w1.heap.size, 7, none⟩ = some (.int .i64 y.mp) := hkr.cell 7
  have r8 : w2.cell? ⟨w1.heap.size, 8, none⟩ = some (.string y.mirror) := hkr.cell 8
  have q0 : w2.cell? ⟨W.heap.size + 2, 0, none⟩ = some (.int .i64 x0) := hk2.cell 0
  have q1 : w2.cell? ⟨W.heap.size + 2, 1, none⟩ = some (.int .i64 x1) := hk2.cell 1
  have q2 : w2.cell? ⟨W.heap.size + 2, 2, none⟩ = some (.int .i64 x2) := hk2.cell 2
  have HKR := hid hk3
  have hl1 := hkr.lt
  have hl2 := hk2.lt
  have hl3 := hk3.lt
  clear hw2 hkr hk2 HQ2 HQ3 c0 c1 c2 c3 c4 c5 c6 c7 c8 c9 hbl t1 hlt2
  go_wp2_with fail
  refine (HF0.out _).mono ?_
  rintro e w' ⟨rfl, rfl⟩
  go_wp2_with fail
  refine (HF1.out _).mono ?_
  rintro e w' ⟨rfl, rfl⟩
  go_wp2_with fail
  refine (HF2.out _).mono ?_
  rintro e w' ⟨rfl, rfl⟩
  clear hk3
  go_upto_region 12 with fail
  refine wp_gen ?_
  intro w3 hw3
  have hk : Blk w3 (W.heap.size + 3) #[.int .i64 0, .int .i64 0, .string ByteArray.empty, .int .i64 0, .int .i64 0, .string ByteArray.empty] 96 := by rw [hw3]; exact HKR.out.alloc _
  have hn : Blk w3 w2.heap.size #[.int .i64 2, .int .i64 k, .string y.target, .int .i64 0, .int .i64 0, .string y.mirror] 96 := by rw [hw3]; exact Blk.new _ _ _
  have HB3 : Hid (Below W.heap.size W w3) := by show Below _ _ _; rw [hw3]; exact HB2.out.alloc HB2.out.size _
  have d0 : w3.cell? ⟨W.heap.size + 3, 0, none⟩ = some (.int .i64 0) := hk.cell 0
  have df0 := hk.free 0
  have d1 : w3.cell? ⟨W.heap.size + 3, 1, none⟩ = some (.int .i64 0) := hk.cell 1
  have df1 := hk.free 1
  have d2 : w3.cell? ⟨W.heap.size + 3, 2, none⟩ = some (.string ByteArray.empty) := hk.cell 2
  have df2 := hk.free 2
  have d3 : w3.cell? ⟨W.heap.size + 3, 3, none⟩ = some (.int .i64 0) := hk.cell 3
  have df3 := hk.free 3
  have d4 : w3.cell? ⟨W.heap.size + 3, 4, none⟩ = some (.int .i64 0) := hk.cell 4
  have df4 := hk.free 4
  have d5 : w3.cell? ⟨W.heap.size + 3, 5, none⟩ = some (.string ByteArray.empty) := hk.cell 5
  have df5 := hk.free 5
  have n0 : w3.cell? ⟨w2.heap.size, 0, none⟩ = some (.int .i64 2) := hn.cell 0
  have n1 : w3.cell? ⟨w2.heap.size, 1, none⟩ = some (.int .i64 k) := hn.cell 1
  have n2 : w3.cell? ⟨w2.heap.size, 2, none⟩ = some (.string y.target) := hn.cell 2
  have n3 : w3.cell? ⟨w2.heap.size, 3, none⟩ = some (.int .i64 0) := hn.cell 3
  have n4 : w3.cell? ⟨w2.heap.size, 4, none⟩ = some (.int .i64 0) := hn.cell 4
  have n5 : w3.cell? ⟨w2.heap.size, 5, none⟩ = some (.string y.mirror) := hn.cell 5
  have hlt := hk.lt
  have hlt3 := hn.lt
  clear hw3 hk hn HKR q0 q1 q2 hl1 hl2 hl3 r2 r3 r4 r5 r6 r7 r8
  go_wp2_with fail
  refine bodyPost_ret (by simp [results, Try.results93, go_sem, d0, d1, d2, d3, d4, d5]; try rfl) rfl ?_
  exact ⟨rfl, HB3.out.trans (by have := HB3.out.size; go_grown; all_goals omega)⟩
set_option maxRecDepth 100000 in
set_option maxHeartbeats 4000000 in
theorem rof_tf {B : Nat} (n : Int) (l : List Rl) (a : Option Addr) (cap : Nat) (f : ByteArray) (m h p b : ByteArray) (hs : List Hd) (a0 : Option Addr) (cap0 : Nat) (W : World) (ht : TabV W B l a cap f) (hq : ReqV W B m h p b hs a0 cap0) (hB : B ≤ W.heap.size) (hn : hs.length ≤ 1000000) (hps : ∀ r ∈ l, r.preds.length ≤ 1000000000) (x0 x1 x2 : Int) (k : Nat) (hk0 : k < l.length) (hr : lookR m h p hs l = k) (hf0 : firesR x0 l[k].ap = false) (hf1 : firesR x1 l[k].dp = true) (hf2 : firesR x2 l[k].mp = false) :
    Calls Try.prog 93 #[.agg #[.int .i64 n, .slice a l.length cap, .string f], .agg #[.string m, .string h, .string p, .slice a0 hs.length cap0, .string b], .agg #[.int .i64 x0, .int .i64 x1, .int .i64 x2], .bool false] W fun e w' => e = .returned (.agg #[.int .i64 2, .int .i64 k, .string l[k].target, .int .i64 0, .int .i64 l[k].dt, .string ByteArray.empty]) ∧ Below W.heap.size W w' := by
  have HA := hid (fun w' (hw : Below W.heap.size W w') => rlook_any n l a cap f m h p b hs a0 cap0 k w' (ht.below (hw.mono hB)) (hq.below (hw.mono hB)) (Nat.le_trans hB hw.size) hn hps hr)
  have HF0 := hid (fun w => rfires_any x0 l[k].ap false w hf0)
  have HF1 := hid (fun w => rfires_any x1 l[k].dp true w hf1)
  have HF2 := hid (fun w => rfires_any x2 l[k].mp false w hf2)
  have HB0 : Hid (Below W.heap.size W ((((W.alloc (.cells #[.int .i64 n, .slice a l.length cap, .string f] 83)).alloc (.cells #[.string m, .string h, .string p, .slice a0 hs.length cap0, .string b] 59)).alloc (.cells #[.int .i64 x0, .int .i64 x1, .int .i64 x2] 94)).alloc (.cells #[.int .i64 0, .int .i64 0, .string ByteArray.empty, .int .i64 0, .int .i64 0, .string ByteArray.empty] 96))) := by show Below _ _ _; go_grown
  have HK2 := hid ((Blk.new' ((W.alloc (.cells #[.int .i64 n, .slice a l.length cap, .string f] 83)).alloc (.cells #[.string m, .string h, .string p, .slice a0 hs.length cap0, .string b] 59)) #[.int .i64 x0, .int .i64 x1, .int .i64 x2] 94 (n := W.heap.size + 2) (by simp)).alloc (.cells #[.int .i64 0, .int .i64 0, .string ByteArray.empty, .int .i64 0, .int .i64 0, .string ByteArray.empty] 96))
  have HK3 := hid (Blk.new' (((W.alloc (.cells #[.int .i64 n, .slice a l.length cap, .string f] 83)).alloc (.cells #[.string m, .string h, .string p, .slice a0 hs.length cap0, .string b] 59)).alloc (.cells #[.int .i64 x0, .int .i64 x1, .int .i64 x2] 94)) #[.int .i64 0, .int .i64 0, .string ByteArray.empty, .int .i64 0, .int .i64 0, .string ByteArray.empty] 96 (n := W.heap.size + 3) (by simp))
  have HK0 := hid ((((Blk.new W #[.int .i64 n, .slice a l.length cap, .string f] 83).alloc (.cells #[.string m, .string h, .string p, .slice a0 hs.length cap0, .string b] 59)).alloc (.cells #[.int .i64 x0, .int .i64 x1, .int .i64 x2] 94)).alloc (.cells #[.int .i64 0, .int .i64 0, .string ByteArray.empty, .int .i64 0, .int .i64 0, .string ByteArray.empty] 96))
  obtain ⟨⟨a9, cap9, e9, hlc, hcm, _, hcell⟩, hlen, _, _⟩ := ht
  cases e9
  obtain ⟨bb, off, rfl, hpb, hc⟩ := hcell.resolve_left (by intro e; rw [e] at hk0; simp at hk0)
  have hbl0 : bb < W.heap.size := Nat.lt_of_lt_of_le hpb hB
  have HCC := hid (fun w' (hw : Below W.heap.size W w') => Rl.cells (fun j u hu => (hw.cell (p := ⟨bb, off + k * 10 + j, none⟩) hbl0).trans (hc k hk0 j u hu)))
  clear hcell hc hq hps hr hf0 hf1 hf2
  generalize l[k] = y at HCC HF0 HF1 HF2 ⊢
  go_enter Try.func93, Try.ntmps93
  go_wp2_with fail
  refine (HA.out _ HB0.out).mono ?_
  rintro e w1 ⟨rfl, hb1⟩
  have HB1 := hid (HB0.out.trans (hb1.mono HB0.out.size))
  obtain ⟨c0, c1, c2, c3, c4, c5, c6, c7, c8, c9⟩ := HCC.out w1 HB1.out
  have hbl : bb < w1.heap.size := Nat.lt_of_lt_of_le hbl0 HB1.out.size
  have t1 : w1.cell? ⟨W.heap.size, 1, none⟩ = some (.slice (some ⟨bb, off, none⟩) l.length cap) := (HK0.out.later hb1).cell 1
  have hlt2 := (HK0.out.later hb1).lt
  have HQ2 := hid (HK2.out.later hb1)
  have HQ3 := hid (HK3.out.later hb1)
  clear hb1 HA HCC
  go_upto_region 5 with fail
  refine wp_gen ?_
  intro w2 hw2
  have hkr : Blk w2 w1.heap.size #[.int .i64 y.rank, .slice y.pa y.preds.length y.pcap, .string y.target, .int .i64 y.ap, .int .i64 y.as_, .int .i64 y.dp, .int .i64 y.dt, .int .i64 y.mp, .string y.mirror, .int .i64 y.sample] 67 := by rw [hw2]; exact Blk.new _ _ _
  have hk2 : Blk w2 (W.heap.size + 2) #[.int .i64 x0, .int .i64 x1, .int .i64 x2] 94 := by rw [hw2]; exact HQ2.out.alloc _
  have hk3 : Blk w2 (W.heap.size + 3) #[.int .i64 0, .int .i64 0, .string ByteArray.empty, .int .i64 0, .int .i64 0, .string ByteArray.empty] 96 := by rw [hw2]; exact HQ3.out.alloc _
  have HB2 : Hid (Below W.heap.size W w2) := by show Below _ _ _; rw [hw2]; exact HB1.out.alloc HB1.out.size _
  have r2 : w2.cell? ⟨w1.heap.size, 2, none⟩ = some (.string y.target) := hkr.cell 2
  have r3 : w2.cell? ⟨w1.heap.size, 3, none⟩ = some (.int .i64 y.ap) := hkr.cell 3
  have r4 : w2.cell? ⟨w1.heap.size, 4, none⟩ = some (.int .i64 y.as_) := hkr.cell 4
  have r5 : w2.cell? ⟨w1.heap.size, 5, none⟩ = some (.int .i64 y.dp) := hkr.cell 5
  have r6 : w2.cell? ⟨w1.heap.size, 6, none⟩ = some (.int .i64 y.dt) := hkr.cell 6
  have r7 : w2.cell? ⟨w1.heap.size, 7, none⟩ = some (.int .i64 y.mp) := hkr.cell 7
  have r8 : w2.cell? ⟨w1.heap.size, 8, none⟩ = some (.string y.mirror) := hkr.cell 8
  have q0 : w2.cell? ⟨W.heap.size + 2, 0, none⟩ = some (.int .i64 x0) := hk2.cell 0
  have q1 : w2.cell? ⟨W.heap.size + 2, 1, none⟩ = some (.int .i64 x1) := hk2.cell 1
  have q2 : w2.cell? ⟨W.heap.size + 2, 2, none⟩ = some (.int .i64 x2) := hk2.cell 2
  have HKR := hid hk3
  have hl1 := hkr.lt
  have hl2 := hk2.lt
  have hl3 := hk3.lt
  clear hw2 hkr hk2 HQ2 HQ3 c0 c1 c2 c3 c4 c5 c6 c7 c8 c9 hbl t1 hlt2
  go_wp2_with fail
  refine (HF0.out _).mono ?_
  rintro e w' ⟨rfl, rfl⟩
  go_wp2_with fail
  refine (HF1.out _).mono ?_
  rintro e w' ⟨rfl, rfl⟩
  go_wp2_with fail
  refine (HF2.out _).mono ?_
  rintro e w' ⟨rfl, rfl⟩
  clear hk3
  go_upto_region 12 with fail
  refine wp_gen ?_
  intro w3 hw3
  have hk : Blk w3 (W.heap.size + 3) #[.int .i64 0, .int .i64 0, .string ByteArray.empty, .int .i64 0, .int .i64 0, .string ByteArray.empty] 96 := by rw [hw3]; exact HKR.out.alloc _
  have hn : Blk w3 w2.heap.size #[.int .i64 2, .int .i64 k, .string y.target, .int .i64 0, .int .i64 y.dt, .string ByteArray.empty] 96 := by rw [hw3]; exact Blk.new _ _ _
  have HB3 : Hid (Below W.heap.size W w3) := by show Below _ _ _; rw [hw3]; exact HB2.out.alloc HB2.out.size _
  have d0 : w3.cell? ⟨W.heap.size + 3, 0, none⟩ = some (.int .i64 0) := hk.cell 0
  have df0 := hk.free 0
  have d1 : w3.cell? ⟨W.heap.size + 3, 1, none⟩ = some (.int .i64 0) := hk.cell 1
  have df1 := hk.free 1
  have d2 : w3.cell? ⟨W.heap.size + 3, 2, none⟩ = some (.string ByteArray.empty) := hk.cell 2
  have df2 := hk.free 2
  have d3 : w3.cell? ⟨W.heap.size + 3, 3, none⟩ = some (.int .i64 0) := hk.cell 3
  have df3 := hk.free 3
  have d4 : w3.cell? ⟨W.heap.size + 3, 4, none⟩ = some (.int .i64 0) := hk.cell 4
  have df4 := hk.free 4
  have d5 : w3.cell? ⟨W.heap.size + 3, 5, none⟩ = some (.string ByteArray.empty) := hk.cell 5
  have df5 := hk.free 5
  have n0 : w3.cell? ⟨w2.heap.size, 0, none⟩ = some (.int .i64 2) := hn.cell 0
  have n1 : w3.cell? ⟨w2.heap.size, 1, none⟩ = some (.int .i64 k) := hn.cell 1
  have n2 : w3.cell? ⟨w2.heap.size, 2, none⟩ = some (.string y.target) := hn.cell 2
  have n3 : w3.cell? ⟨w2.heap.size, 3, none⟩ = some (.int .i64 0) := hn.cell 3
  have n4 : w3.cell? ⟨w2.heap.size, 4, none⟩ = some (.int .i64 y.dt) := hn.cell 4
  have n5 : w3.cell? ⟨w2.heap.size, 5, none⟩ = some (.string ByteArray.empty) := hn.cell 5
  have hlt := hk.lt
  have hlt3 := hn.lt
  clear hw3 hk hn HKR q0 q1 q2 hl1 hl2 hl3 r2 r3 r4 r5 r6 r7 r8
  go_wp2_with fail
  refine bodyPost_ret (by simp [results, Try.results93, go_sem, d0, d1, d2, d3, d4, d5]; try rfl) rfl ?_
  exact ⟨rfl, HB3.out.trans (by have := HB3.out.size; go_grown; all_goals omega)⟩
set_option maxRecDepth 100000 in
set_option maxHeartbeats 4000000 in
theorem rof_tt {B : Nat} (n : Int) (l : List Rl) (a : Option Addr) (cap : Nat) (f : ByteArray) (m h p b : ByteArray) (hs : List Hd) (a0 : Option Addr) (cap0 : Nat) (W : World) (ht : TabV W B l a cap f) (hq : ReqV W B m h p b hs a0 cap0) (hB : B ≤ W.heap.size) (hn : hs.length ≤ 1000000) (hps : ∀ r ∈ l, r.preds.length ≤ 1000000000) (x0 x1 x2 : Int) (k : Nat) (hk0 : k < l.length) (hr : lookR m h p hs l = k) (hf0 : firesR x0 l[k].ap = false) (hf1 : firesR x1 l[k].dp = true) (hf2 : firesR x2 l[k].mp = true) :
    Calls Try.prog 93 #[.agg #[.int .i64 n, .slice a l.length cap, .string f], .agg #[.string m, .string h, .string p, .slice a0 hs.length cap0, .string b], .agg #[.int .i64 x0, .int .i64 x1, .int .i64 x2], .bool false] W fun e w' => e = .returned (.agg #[.int .i64 2, .int .i64 k, .string l[k].target, .int .i64 0, .int .i64 l[k].dt, .string l[k].mirror]) ∧ Below W.heap.size W w' := by
  have HA := hid (fun w' (hw : Below W.heap.size W w') => rlook_any n l a cap f m h p b hs a0 cap0 k w' (ht.below (hw.mono hB)) (hq.below (hw.mono hB)) (Nat.le_trans hB hw.size) hn hps hr)
  have HF0 := hid (fun w => rfires_any x0 l[k].ap false w hf0)
  have HF1 := hid (fun w => rfires_any x1 l[k].dp true w hf1)
  have HF2 := hid (fun w => rfires_any x2 l[k].mp true w hf2)
  have HB0 : Hid (Below W.heap.size W ((((W.alloc (.cells #[.int .i64 n, .slice a l.length cap, .string f] 83)).alloc (.cells #[.string m, .string h, .string p, .slice a0 hs.length cap0, .string b] 59)).alloc (.cells #[.int .i64 x0, .int .i64 x1, .int .i64 x2] 94)).alloc (.cells #[.int .i64 0, .int .i64 0, .string ByteArray.empty, .int .i64 0, .int .i64 0, .string ByteArray.empty] 96))) := by show Below _ _ _; go_grown
  have HK2 := hid ((Blk.new' ((W.alloc (.cells #[.int .i64 n, .slice a l.length cap, .string f] 83)).alloc (.cells #[.string m, .string h, .string p, .slice a0 hs.length cap0, .string b] 59)) #[.int .i64 x0, .int .i64 x1, .int .i64 x2] 94 (n := W.heap.size + 2) (by simp)).alloc (.cells #[.int .i64 0, .int .i64 0, .string ByteArray.empty, .int .i64 0, .int .i64 0, .string ByteArray.empty] 96))
  have HK3 := hid (Blk.new' (((W.alloc (.cells #[.int .i64 n, .slice a l.length cap, .string f] 83)).alloc (.cells #[.string m, .string h, .string p, .slice a0 hs.length cap0, .string b] 59)).alloc (.cells #[.int .i64 x0, .int .i64 x1, .int .i64 x2] 94)) #[.int .i64 0, .int .i64 0, .string ByteArray.empty, .int .i64 0, .int .i64 0, .string ByteArray.empty] 96 (n := W.heap.size + 3) (by simp))
  have HK0 := hid ((((Blk.new W #[.int .i64 n, .slice a l.length cap, .string f] 83).alloc (.cells #[.string m, .string h, .string p, .slice a0 hs.length cap0, .string b] 59)).alloc (.cells #[.int .i64 x0, .int .i64 x1, .int .i64 x2] 94)).alloc (.cells #[.int .i64 0, .int .i64 0, .string ByteArray.empty, .int .i64 0, .int .i64 0, .string ByteArray.empty] 96))
  obtain ⟨⟨a9, cap9, e9, hlc, hcm, _, hcell⟩, hlen, _, _⟩ := ht
  cases e9
  obtain ⟨bb, off, rfl, hpb, hc⟩ := hcell.resolve_left (by intro e; rw [e] at hk0; simp at hk0)
  have hbl0 : bb < W.heap.size := Nat.lt_of_lt_of_le hpb hB
  have HCC := hid (fun w' (hw : Below W.heap.size W w') => Rl.cells (fun j u hu => (hw.cell (p := ⟨bb, off + k * 10 + j, none⟩) hbl0).trans (hc k hk0 j u hu)))
  clear hcell hc hq hps hr hf0 hf1 hf2
  generalize l[k] = y at HCC HF0 HF1 HF2 ⊢
  go_enter Try.func93, Try.ntmps93
  go_wp2_with fail
  refine (HA.out _ HB0.out).mono ?_
  rintro e w1 ⟨rfl, hb1⟩
  have HB1 := hid (HB0.out.trans (hb1.mono HB0.out.size))
  obtain ⟨c0, c1, c2, c3, c4, c5, c6, c7, c8, c9⟩ := HCC.out w1 HB1.out
  have hbl : bb < w1.heap.size := Nat.lt_of_lt_of_le hbl0 HB1.out.size
  have t1 : w1.cell? ⟨W.heap.size, 1, none⟩ = some (.slice (some ⟨bb, off, none⟩) l.length cap) := (HK0.out.later hb1).cell 1
  have hlt2 := (HK0.out.later hb1).lt
  have HQ2 := hid (HK2.out.later hb1)
  have HQ3 := hid (HK3.out.later hb1)
  clear hb1 HA HCC
  go_upto_region 5 with fail
  refine wp_gen ?_
  intro w2 hw2
  have hkr : Blk w2 w1.heap.size #[.int .i64 y.rank, .slice y.pa y.preds.length y.pcap, .string y.target, .int .i64 y.ap, .int .i64 y.as_, .int .i64 y.dp, .int .i64 y.dt, .int .i64 y.mp, .string y.mirror, .int .i64 y.sample] 67 := by rw [hw2]; exact Blk.new _ _ _
  have hk2 : Blk w2 (W.heap.size + 2) #[.int .i64 x0, .int .i64 x1, .int .i64 x2] 94 := by rw [hw2]; exact HQ2.out.alloc _
  have hk3 : Blk w2 (W.heap.size + 3) #[.int .i64 0, .int .i64 0, .string ByteArray.empty, .int .i64 0, .int .i64 0, .string ByteArray.empty] 96 := by rw [hw2]; exact HQ3.out.alloc _
  have HB2 : Hid (Below W.heap.size W w2) := by show Below _ _ _; rw [hw2]; exact HB1.out.alloc HB1.out.size _
  have r2 : w2.cell? ⟨w1.heap.size, 2, none⟩ = some (.string y.target) := hkr.cell 2
  have r3 : w2.cell? ⟨w1.heap.size, 3, none⟩ = some (.int .i64 y.ap) := hkr.cell 3
  have r4 : w2.cell? ⟨w1.heap.size, 4, none⟩ = some (.int .i64 y.as_) := hkr.cell 4
  have r5 : w2.cell? ⟨w1.heap.size, 5, none⟩ = some (.int .i64 y.dp) := hkr.cell 5
  have r6 : w2.cell? ⟨w1.heap.size, 6, none⟩ = some (.int .i64 y.dt) := hkr.cell 6
  have r7 : w2.cell? ⟨w1.heap.size, 7, none⟩ = some (.int .i64 y.mp) := hkr.cell 7
  have r8 : w2.cell? ⟨w1.heap.size, 8, none⟩ = some (.string y.mirror) := hkr.cell 8
  have q0 : w2.cell? ⟨W.heap.size + 2, 0, none⟩ = some (.int .i64 x0) := hk2.cell 0
  have q1 : w2.cell? ⟨W.heap.size + 2, 1, none⟩ = some (.int .i64 x1) := hk2.cell 1
  have q2 : w2.cell? ⟨W.heap.size + 2, 2, none⟩ = some (.int .i64 x2) := hk2.cell 2
  have HKR := hid hk3
  have hl1 := hkr.lt
  have hl2 := hk2.lt
  have hl3 := hk3.lt
  clear hw2 hkr hk2 HQ2 HQ3 c0 c1 c2 c3 c4 c5 c6 c7 c8 c9 hbl t1 hlt2
  go_wp2_with fail
  refine (HF0.out _).mono ?_
  rintro e w' ⟨rfl, rfl⟩
  go_wp2_with fail
  refine (HF1.out _).mono ?_
  rintro e w' ⟨rfl, rfl⟩
  go_wp2_with fail
  refine (HF2.out _).mono ?_
  rintro e w' ⟨rfl, rfl⟩
  clear hk3
  go_upto_region 12 with fail
  refine wp_gen ?_
  intro w3 hw3
  have hk : Blk w3 (W.heap.size + 3) #[.int .i64 0, .int .i64 0, .string ByteArray.empty, .int .i64 0, .int .i64 0, .string ByteArray.empty] 96 := by rw [hw3]; exact HKR.out.alloc _
  have hn : Blk w3 w2.heap.size #[.int .i64 2, .int .i64 k, .string y.target, .int .i64 0, .int .i64 y.dt, .string y.mirror] 96 := by rw [hw3]; exact Blk.new _ _ _
  have HB3 : Hid (Below W.heap.size W w3) := by show Below _ _ _; rw [hw3]; exact HB2.out.alloc HB2.out.size _
  have d0 : w3.cell? ⟨W.heap.size + 3, 0, none⟩ = some (.int .i64 0) := hk.cell 0
  have df0 := hk.free 0
  have d1 : w3.cell? ⟨W.heap.size + 3, 1, none⟩ = some (.int .i64 0) := hk.cell 1
  have df1 := hk.free 1
  have d2 : w3.cell? ⟨W.heap.size + 3, 2, none⟩ = some (.string ByteArray.empty) := hk.cell 2
  have df2 := hk.free 2
  have d3 : w3.cell? ⟨W.heap.size + 3, 3, none⟩ = some (.int .i64 0) := hk.cell 3
  have df3 := hk.free 3
  have d4 : w3.cell? ⟨W.heap.size + 3, 4, none⟩ = some (.int .i64 0) := hk.cell 4
  have df4 := hk.free 4
  have d5 : w3.cell? ⟨W.heap.size + 3, 5, none⟩ = some (.string ByteArray.empty) := hk.cell 5
  have df5 := hk.free 5
  have n0 : w3.cell? ⟨w2.heap.size, 0, none⟩ = some (.int .i64 2) := hn.cell 0
  have n1 : w3.cell? ⟨w2.heap.size, 1, none⟩ = some (.int .i64 k) := hn.cell 1
  have n2 : w3.cell? ⟨w2.heap.size, 2, none⟩ = some (.string y.target) := hn.cell 2
  have n3 : w3.cell? ⟨w2.heap.size, 3, none⟩ = some (.int .i64 0) := hn.cell 3
  have n4 : w3.cell? ⟨w2.heap.size, 4, none⟩ = some (.int .i64 y.dt) := hn.cell 4
  have n5 : w3.cell? ⟨w2.heap.size, 5, none⟩ = some (.string y.mirror) := hn.cell 5
  have hlt := hk.lt
  have hlt3 := hn.lt
  clear hw3 hk hn HKR q0 q1 q2 hl1 hl2 hl3 r2 r3 r4 r5 r6 r7 r8
  go_wp2_with fail
  refine bodyPost_ret (by simp [results, Try.results93, go_sem, d0, d1, d2, d3, d4, d5]; try rfl) rfl ?_
  exact ⟨rfl, HB3.out.trans (by have := HB3.out.size; go_grown; all_goals omega)⟩
theorem rof_any {B : Nat} (n : Int) (l : List Rl) (a : Option Addr) (cap : Nat) (f : ByteArray) (m h p b : ByteArray) (hs : List Hd) (a0 : Option Addr) (cap0 : Nat) (W : World) (ht : TabV W B l a cap f) (hq : ReqV W B m h p b hs a0 cap0) (hB : B ≤ W.heap.size) (hn : hs.length ≤ 1000000) (hps : ∀ r ∈ l, r.preds.length ≤ 1000000000) (x0 x1 x2 : Int) (sh : Bool) (x : Ac) (hx : ofR m h p hs l x0 x1 x2 sh = x) :
    Calls Try.prog 93 #[.agg #[.int .i64 n, .slice a l.length cap, .string f], .agg #[.string m, .string h, .string p, .slice a0 hs.length cap0, .string b], .agg #[.int .i64 x0, .int .i64 x1, .int .i64 x2], .bool sh] W fun e w' => e = .returned (.agg #[.int .i64 x.kind, .int .i64 x.rule, .string x.target, .int .i64 x.status, .int .i64 x.delay, .string x.mirror]) ∧ Below W.heap.size W w' := by
  subst hx
  unfold ofR
  by_cases h0 : ix m h p hs l < l.length
  · simp only [dif_pos h0]
    have hr : lookR m h p hs l = (ix m h p hs l : Nat) := if_pos h0
    cases sh
    · unfold troubleR
      cases f0 : firesR x0 l[ix m h p hs l].ap
      · cases f1 : firesR x1 l[ix m h p hs l].dp
        · cases f2 : firesR x2 l[ix m h p hs l].mp
          · exact rof_ff n l a cap f m h p b hs a0 cap0 W ht hq hB hn hps x0 x1 x2 _ h0 hr f0 f1 f2
          · exact rof_ft n l a cap f m h p b hs a0 cap0 W ht hq hB hn hps x0 x1 x2 _ h0 hr f0 f1 f2
        · cases f2 : firesR x2 l[ix m h p hs l].mp
          · exact rof_tf n l a cap f m h p b hs a0 cap0 W ht hq hB hn hps x0 x1 x2 _ h0 hr f0 f1 f2
          · exact rof_tt n l a cap f m h p b hs a0 cap0 W ht hq hB hn hps x0 x1 x2 _ h0 hr f0 f1 f2
      · exact rof_a n l a cap f m h p b hs a0 cap0 W ht hq hB hn hps x0 x1 x2 _ h0 hr f0
    · exact rof_s n l a cap f m h p b hs a0 cap0 W ht hq hB hn hps x0 x1 x2 _ h0 hr
  · simp only [dif_neg h0]
    exact rof_none n l a cap f m h p b hs a0 cap0 W ht hq hB hn hps x0 x1 x2 sh (if_neg h0)
set_option maxRecDepth 100000 in
set_option maxHeartbeats 4000000 in
theorem rsamp_any {B : Nat} (n : Int) (l : List Rl) (a : Option Addr) (cap : Nat) (f : ByteArray) (m h p b : ByteArray) (hs : List Hd) (a0 : Option Addr) (cap0 : Nat) (W : World) (ht : TabV W B l a cap f) (hq : ReqV W B m h p b hs a0 cap0) (hB : B ≤ W.heap.size) (hn : hs.length ≤ 1000000) (hps : ∀ r ∈ l, r.preds.length ≤ 1000000000) (x0 : Int) (q : Bool) (hx : sampR m h p hs l x0 = q) :
    Calls Try.prog 95 #[.agg #[.int .i64 n, .slice a l.length cap, .string f], .agg #[.string m, .string h, .string p, .slice a0 hs.length cap0, .string b], .int .i64 x0] W fun e w' => e = .returned (.bool q) ∧ Below W.heap.size W w' := by
  have HB0 : Hid (Below W.heap.size W ((W.alloc (.cells #[.int .i64 n, .slice a l.length cap, .string f] 83)).alloc (.cells #[.string m, .string h, .string p, .slice a0 hs.length cap0, .string b] 59))) := by show Below _ _ _; go_grown
  unfold sampR at hx
  by_cases h0 : ix m h p hs l < l.length
  · rw [dif_pos h0] at hx
    have HA := hid (fun w' (hw : Below W.heap.size W w') => rlook_any n l a cap f m h p b hs a0 cap0 _ w' (ht.below (hw.mono hB)) (hq.below (hw.mono hB)) (Nat.le_trans hB hw.size) hn hps (if_pos h0))
    have HF := hid (fun w => rfires_any x0 l[ix m h p hs l].sample q w hx)
    have HK0 := hid ((Blk.new W #[.int .i64 n, .slice a l.length cap, .string f] 83).alloc (.cells #[.string m, .string h, .string p, .slice a0 hs.length cap0, .string b] 59))
    obtain ⟨⟨a9, cap9, e9, hlc, hcm, _, hcell⟩, hlen, _, _⟩ := ht
    cases e9
    obtain ⟨bb, off, rfl, hpb, hc⟩ := hcell.resolve_left (by intro e; rw [e] at h0; simp at h0)
    have hbl0 : bb < W.heap.size := Nat.lt_of_lt_of_le hpb hB
    have HCC := hid (fun w' (hw : Below W.heap.size W w') => Rl.cells (fun j u hu => (hw.cell (p := ⟨bb, off + ix m h p hs l * 10 + j, none⟩) hbl0).trans (hc _ h0 j u hu)))
    clear hcell hc hq hps hx
    generalize l[ix m h p hs l] = y at HCC HF
    generalize ix m h p hs l = k at HA HCC h0
    go_enter Try.func95, Try.ntmps95
    go_wp2_with fail
    refine (HA.out _ HB0.out).mono ?_
    rintro e w1 ⟨rfl, hb1⟩
    have HB1 := hid (HB0.out.trans (hb1.mono HB0.out.size))
    obtain ⟨c0, c1, c2, c3, c4, c5, c6, c7, c8, c9⟩ := HCC.out w1 HB1.out
    have hbl : bb < w1.heap.size := Nat.lt_of_lt_of_le hbl0 HB1.out.size
    have t1 : w1.cell? ⟨W.heap.size, 1, none⟩ = some (.slice (some ⟨bb, off, none⟩) l.length cap) := (HK0.out.later hb1).cell 1
    have hlt2 := (HK0.out.later hb1).lt
    clear hb1 HA HCC
    go_wp2_with fail
    refine (HF.out _).mono ?_
    rintro e w' ⟨rfl, rfl⟩
    go_wp2_with fail
    go_ret
    exact ⟨rfl, HB1.out⟩
  · rw [dif_neg h0] at hx
    subst hx
    have HA := hid (fun w' (hw : Below W.heap.size W w') => rlook_any n l a cap f m h p b hs a0 cap0 (-1) w' (ht.below (hw.mono hB)) (hq.below (hw.mono hB)) (Nat.le_trans hB hw.size) hn hps (if_neg h0))
    clear ht hq hps
    go_enter Try.func95, Try.ntmps95
    go_wp2_with fail
    refine (HA.out _ HB0.out).mono ?_
    rintro e w1 ⟨rfl, hb1⟩
    have HB1 := hid (HB0.out.trans (hb1.mono HB0.out.size))
    clear hb1 HA
    go_wp2_with fail
    go_ret
    exact ⟨rfl, HB1.out⟩
end C16
end Go.Proofs.Ytpamnknfccmgcaa
