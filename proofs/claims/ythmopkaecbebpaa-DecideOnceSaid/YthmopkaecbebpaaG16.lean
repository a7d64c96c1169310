/- Walks of layer 16 (decide): what is done with a request; no condition. -/
import Derived.Test.YthmopkaecbebpaaF16
import Derived.Deep.Cut
namespace Go.Peri
open Go.RowKit
/-- The world under a name. -/
theorem wp_gen {P : Program} {c : Code} {Q : Exit → Act → World → Prop} {a : Act} {w : World} (h : ∀ w2, w2 = w → c.wp P Q a w2) : c.wp P Q a w := h w rfl
end Go.Peri
namespace Go.Proofs.Ythmopkaecbebpaa
open Go.RowKit Go.Peri
namespace C16
def troubleR (r : Rl) (k : Int) (x0 x1 x2 : Int) : Ac :=
  if firesR x0 r.ap = true then ⟨1, k, r.target, r.as_, 0, ByteArray.empty⟩
  else ⟨2, k, r.target, 0, if firesR x1 r.dp = true then r.dt else 0, if firesR x2 r.mp = true then r.mirror else ByteArray.empty⟩
def ofR (m h p : ByteArray) (hs : List Hd) (l : List Rl) (x0 x1 x2 : Int) (sh : Bool) : Ac :=
  if hx : ix m h p hs l < l.length then
    if sh = true then ⟨2, ix m h p hs l, l[ix m h p hs l].target, 0, 0, ByteArray.empty⟩ else troubleR l[ix m h p hs l] (ix m h p hs l) x0 x1 x2
  else ⟨0, -1, ByteArray.empty, 404, 0, ByteArray.empty⟩
set_option maxRecDepth 100000 in
set_option maxHeartbeats 4000000 in
theorem trouble_abort (r : Rl) (k x0 x1 x2 : Int) (W : World) (hq : firesR x0 r.ap = true) :
    Calls Try.prog 107 #[.agg #[.int .i64 r.rank, .slice r.pa r.preds.length r.pcap, .string r.target, .int .i64 r.ap, .int .i64 r.as_, .int .i64 r.dp, .int .i64 r.dt, .int .i64 r.mp, .string r.mirror, .int .i64 r.sample, .int .i64 k], .agg #[.int .i64 x0, .int .i64 x1, .int .i64 x2]] W fun e w' => e = .returned (.agg #[.int .i64 1, .int .i64 k, .string r.target, .int .i64 r.as_, .int .i64 0, .string ByteArray.empty]) ∧ Below W.heap.size W w' := by
  have HA := hid (fun w => abort_any r k x0 true w hq)
  have HB0 : Hid (Below W.heap.size W (((W.alloc (.cells #[.int .i64 r.rank, .slice r.pa r.preds.length r.pcap, .string r.target, .int .i64 r.ap, .int .i64 r.as_, .int .i64 r.dp, .int .i64 r.dt, .int .i64 r.mp, .string r.mirror, .int .i64 r.sample, .int .i64 k] 192)).alloc (.cells #[.int .i64 x0, .int .i64 x1, .int .i64 x2] 114)).alloc (.cells #[.int .i64 0, .int .i64 0, .string ByteArray.empty, .int .i64 0, .int .i64 0, .string ByteArray.empty] 118))) := by show Below _ _ _; go_grown
  have HK0 := hid (((Blk.new W #[.int .i64 r.rank, .slice r.pa r.preds.length r.pcap, .string r.target, .int .i64 r.ap, .int .i64 r.as_, .int .i64 r.dp, .int .i64 r.dt, .int .i64 r.mp, .string r.mirror, .int .i64 r.sample, .int .i64 k] 192).alloc (.cells #[.int .i64 x0, .int .i64 x1, .int .i64 x2] 114)).alloc (.cells #[.int .i64 0, .int .i64 0, .string ByteArray.empty, .int .i64 0, .int .i64 0, .string ByteArray.empty] 118))
  have HK1 := hid ((Blk.new' (W.alloc (.cells #[.int .i64 r.rank, .slice r.pa r.preds.length r.pcap, .string r.target, .int .i64 r.ap, .int .i64 r.as_, .int .i64 r.dp, .int .i64 r.dt, .int .i64 r.mp, .string r.mirror, .int .i64 r.sample, .int .i64 k] 192)) #[.int .i64 x0, .int .i64 x1, .int .i64 x2] 114 (n := W.heap.size + 1) (by simp)).alloc (.cells #[.int .i64 0, .int .i64 0, .string ByteArray.empty, .int .i64 0, .int .i64 0, .string ByteArray.empty] 118))
  have HK2 := hid (Blk.new' ((W.alloc (.cells #[.int .i64 r.rank, .slice r.pa r.preds.length r.pcap, .string r.target, .int .i64 r.ap, .int .i64 r.as_, .int .i64 r.dp, .int .i64 r.dt, .int .i64 r.mp, .string r.mirror, .int .i64 r.sample, .int .i64 k] 192)).alloc (.cells #[.int .i64 x0, .int .i64 x1, .int .i64 x2] 114)) #[.int .i64 0, .int .i64 0, .string ByteArray.empty, .int .i64 0, .int .i64 0, .string ByteArray.empty] 118 (n := W.heap.size + 2) (by simp))
  clear hq
  go_enter Try.func107, Try.ntmps107
  go_wp2_with fail
  refine (HA.out _).mono ?_
  rintro e w1 ⟨rfl, hb1⟩
  have HK := hid (HK2.out.later hb1)
  have HB1 := hid (HB0.out.trans (hb1.mono HB0.out.size))
  clear hb1 HA
  go_upto_region 3 with fail
  refine wp_gen ?_
  intro w2 hw2
  have hk : Blk w2 (W.heap.size + 2) #[.int .i64 0, .int .i64 0, .string ByteArray.empty, .int .i64 0, .int .i64 0, .string ByteArray.empty] 118 := by rw [hw2]; exact HK.out.alloc _
  have hn : Blk w2 w1.heap.size #[.int .i64 1, .int .i64 k, .string r.target, .int .i64 r.as_, .int .i64 0, .string ByteArray.empty] 118 := by rw [hw2]; exact Blk.new _ _ _
  have HB2 : Hid (Below W.heap.size W w2) := by show Below _ _ _; rw [hw2]; exact HB1.out.alloc HB1.out.size _
  have d0 : w2.cell? ⟨W.heap.size + 2, 0, none⟩ = some (.int .i64 0) := hk.cell 0
  have df0 := hk.free 0
  have d1 : w2.cell? ⟨W.heap.size + 2, 1, none⟩ = some (.int .i64 0) := hk.cell 1
  have df1 := hk.free 1
  have d2 : w2.cell? ⟨W.heap.size + 2, 2, none⟩ = some (.string ByteArray.empty) := hk.cell 2
  have df2 := hk.free 2
  have d3 : w2.cell? ⟨W.heap.size + 2, 3, none⟩ = some (.int .i64 0) := hk.cell 3
  have df3 := hk.free 3
  have d4 : w2.cell? ⟨W.heap.size + 2, 4, none⟩ = some (.int .i64 0) := hk.cell 4
  have df4 := hk.free 4
  have d5 : w2.cell? ⟨W.heap.size + 2, 5, none⟩ = some (.string ByteArray.empty) := hk.cell 5
  have df5 := hk.free 5
  have n0 : w2.cell? ⟨w1.heap.size, 0, none⟩ = some (.int .i64 1) := hn.cell 0
  have n1 : w2.cell? ⟨w1.heap.size, 1, none⟩ = some (.int .i64 k) := hn.cell 1
  have n2 : w2.cell? ⟨w1.heap.size, 2, none⟩ = some (.string r.target) := hn.cell 2
  have n3 : w2.cell? ⟨w1.heap.size, 3, none⟩ = some (.int .i64 r.as_) := hn.cell 3
  have n4 : w2.cell? ⟨w1.heap.size, 4, none⟩ = some (.int .i64 0) := hn.cell 4
  have n5 : w2.cell? ⟨w1.heap.size, 5, none⟩ = some (.string ByteArray.empty) := hn.cell 5
  have hlt := hk.lt
  have hlt2 := hn.lt
  clear hw2 hk hn HK
  go_wp2_with fail
  refine bodyPost_ret (by simp [results, Try.results107, go_sem, d0, d1, d2, d3, d4, d5]; try rfl) rfl ?_
  exact ⟨rfl, HB2.out.trans (by have := HB2.out.size; go_grown; all_goals omega)⟩
set_option maxRecDepth 100000 in
set_option maxHeartbeats 4000000 in
theorem trouble_ff (r : Rl) (k x0 x1 x2 : Int) (W : World) (hq : firesR x0 r.ap = false) (hq1 : firesR x1 r.dp = false) (hq2 : firesR x2 r.mp = false) :
    Calls Try.prog 107 #[.agg #[.int .i64 r.rank, .slice r.pa r.preds.length r.pcap, .string r.target, .int .i64 r.ap, .int .i64 r.as_, .int .i64 r.dp, .int .i64 r.dt, .int .i64 r.mp, .string r.mirror, .int .i64 r.sample, .int .i64 k], .agg #[.int .i64 x0, .int .i64 x1, .int .i64 x2]] W fun e w' => e = .returned (.agg #[.int .i64 2, .int .i64 k, .string r.target, .int .i64 0, .int .i64 0, .string ByteArray.empty]) ∧ Below W.heap.size W w' := by
  have HA := hid (fun w => abort_any r k x0 false w hq)
  have HP := hid (fun w => pass_any r k w)
  have HF1 := hid (fun w => fires_any x1 r.dp false w hq1)
  have HF2 := hid (fun w => fires_any x2 r.mp false w hq2)
  have HB0 : Hid (Below W.heap.size W (((W.alloc (.cells #[.int .i64 r.rank, .slice r.pa r.preds.length r.pcap, .string r.target, .int .i64 r.ap, .int .i64 r.as_, .int .i64 r.dp, .int .i64 r.dt, .int .i64 r.mp, .string r.mirror, .int .i64 r.sample, .int .i64 k] 192)).alloc (.cells #[.int .i64 x0, .int .i64 x1, .int .i64 x2] 114)).alloc (.cells #[.int .i64 0, .int .i64 0, .string ByteArray.empty, .int .i64 0, .int .i64 0, .string ByteArray.empty] 118))) := by show Below _ _ _; go_grown
  have HK0 := hid (((Blk.new W #[.int .i64 r.rank, .slice r.pa r.preds.length r.pcap, .string r.target, .int .i64 r.ap, .int .i64 r.as_, .int .i64 r.dp, .int .i64 r.dt, .int .i64 r.mp, .string r.mirror, .int .i64 r.sample, .int .i64 k] 192).alloc (.cells #[.int .i64 x0, .int .i64 x1, .int .i64 x2] 114)).alloc (.cells #[.int .i64 0, .int .i64 0, .string ByteArray.empty, .int .i64 0, .int .i64 0, .string ByteArray.empty] 118))
  have HK1 := hid ((Blk.new' (W.alloc (.cells #[.int .i64 r.rank, .slice r.pa r.preds.length r.pcap, .string r.target, .int .i64 r.ap, .int .i64 r.as_, .int .i64 r.dp, .int .i64 r.dt, .int .i64 r.mp, .string r.mirror, .int .i64 r.sample, .int .i64 k] 192)) #[.int .i64 x0, .int .i64 x1, .int .i64 x2] 114 (n := W.heap.size + 1) (by simp)).alloc (.cells #[.int .i64 0, .int .i64 0, .string ByteArray.empty, .int .i64 0, .int .i64 0, .string ByteArray.empty] 118))
  have HK2 := hid (Blk.new' ((W.alloc (.cells #[.int .i64 r.rank, .slice r.pa r.preds.length r.pcap, .string r.target, .int .i64 r.ap, .int .i64 r.as_, .int .i64 r.dp, .int .i64 r.dt, .int .i64 r.mp, .string r.mirror, .int .i64 r.sample, .int .i64 k] 192)).alloc (.cells #[.int .i64 x0, .int .i64 x1, .int .i64 x2] 114)) #[.int .i64 0, .int .i64 0, .string ByteArray.empty, .int .i64 0, .int .i64 0, .string ByteArray.empty] 118 (n := W.heap.size + 2) (by simp))
  clear hq hq1 hq2
  go_enter Try.func107, Try.ntmps107
  go_wp2_with fail
  refine (HA.out _).mono ?_
  rintro e w1 ⟨rfl, hb1⟩
  have HB1 := hid (HB0.out.trans (hb1.mono HB0.out.size))
  have HQ1 := hid hb1
  have g0 : w1.cell? ⟨W.heap.size, 0, none⟩ = some (.int .i64 r.rank) := (HK0.out.later hb1).cell 0
  have g1 : w1.cell? ⟨W.heap.size, 1, none⟩ = some (.slice r.pa r.preds.length r.pcap) := (HK0.out.later hb1).cell 1
  have g2 : w1.cell? ⟨W.heap.size, 2, none⟩ = some (.string r.target) := (HK0.out.later hb1).cell 2
  have g3 : w1.cell? ⟨W.heap.size, 3, none⟩ = some (.int .i64 r.ap) := (HK0.out.later hb1).cell 3
  have g4 : w1.cell? ⟨W.heap.size, 4, none⟩ = some (.int .i64 r.as_) := (HK0.out.later hb1).cell 4
  have g5 : w1.cell? ⟨W.heap.size, 5, none⟩ = some (.int .i64 r.dp) := (HK0.out.later hb1).cell 5
  have g6 : w1.cell? ⟨W.heap.size, 6, none⟩ = some (.int .i64 r.dt) := (HK0.out.later hb1).cell 6
  have g7 : w1.cell? ⟨W.heap.size, 7, none⟩ = some (.int .i64 r.mp) := (HK0.out.later hb1).cell 7
  have g8 : w1.cell? ⟨W.heap.size, 8, none⟩ = some (.string r.mirror) := (HK0.out.later hb1).cell 8
  have g9 : w1.cell? ⟨W.heap.size, 9, none⟩ = some (.int .i64 r.sample) := (HK0.out.later hb1).cell 9
  have g10 : w1.cell? ⟨W.heap.size, 10, none⟩ = some (.int .i64 k) := (HK0.out.later hb1).cell 10
  have hlt0 := (HK0.out.later hb1).lt
  clear hb1 HA
  go_wp2_with fail
  refine (HP.out _).mono ?_
  rintro e w2 ⟨rfl, hb2⟩
  have hbw : Below w1.heap.size w1 w2 := Below.trans (by go_grown) (hb2.mono (by simp))
  have HQ2 := hid (HQ1.out.trans (hbw.mono HQ1.out.size))
  have HB2 := hid (HB0.out.trans (HQ2.out.mono HB0.out.size))
  have hk0 := HK0.out.later HQ2.out
  have hk1 := HK1.out.later HQ2.out
  have hk2 := HK2.out.later HQ2.out
  have p5 : w2.cell? ⟨W.heap.size, 5, none⟩ = some (.int .i64 r.dp) := hk0.cell 5
  have p6 : w2.cell? ⟨W.heap.size, 6, none⟩ = some (.int .i64 r.dt) := hk0.cell 6
  have p7 : w2.cell? ⟨W.heap.size, 7, none⟩ = some (.int .i64 r.mp) := hk0.cell 7
  have p8 : w2.cell? ⟨W.heap.size, 8, none⟩ = some (.string r.mirror) := hk0.cell 8
  have q1 : w2.cell? ⟨W.heap.size + 1, 1, none⟩ = some (.int .i64 x1) := hk1.cell 1
  have q2 : w2.cell? ⟨W.heap.size + 1, 2, none⟩ = some (.int .i64 x2) := hk1.cell 2
  have hl0 := hk0.lt
  have hl1 := hk1.lt
  have HKR := hid hk2
  clear hb2 hbw hk0 hk1 hk2 HP g0 g1 g2 g3 g4 g5 g6 g7 g8 g9 g10 hlt0
  go_wp2_with fail
  refine (HF1.out _).mono ?_
  rintro e w' ⟨rfl, rfl⟩
  go_wp2_with fail
  refine (HF2.out _).mono ?_
  rintro e w' ⟨rfl, rfl⟩
  go_upto_region 9 with fail
  refine wp_gen ?_
  intro w3 hw3
  have hk : Blk w3 (W.heap.size + 2) #[.int .i64 0, .int .i64 0, .string ByteArray.empty, .int .i64 0, .int .i64 0, .string ByteArray.empty] 118 := by rw [hw3]; exact HKR.out.alloc _
  have hn : Blk w3 w2.heap.size #[.int .i64 2, .int .i64 k, .string r.target, .int .i64 0, .int .i64 0, .string ByteArray.empty] 118 := by rw [hw3]; exact Blk.new _ _ _
  have HB3 : Hid (Below W.heap.size W w3) := by show Below _ _ _; rw [hw3]; exact HB2.out.alloc HB2.out.size _
  have d0 : w3.cell? ⟨W.heap.size + 2, 0, none⟩ = some (.int .i64 0) := hk.cell 0
  have df0 := hk.free 0
  have d1 : w3.cell? ⟨W.heap.size + 2, 1, none⟩ = some (.int .i64 0) := hk.cell 1
  have df1 := hk.free 1
  have d2 : w3.cell? ⟨W.heap.size + 2, 2, none⟩ = some (.string ByteArray.empty) := hk.cell 2
  have df2 := hk.free 2
  have d3 : w3.cell? ⟨W.heap.size + 2, 3, none⟩ = some (.int .i64 0) := hk.cell 3
  have df3 := hk.free 3
  have d4 : w3.cell? ⟨W.heap.size + 2, 4, none⟩ = some (.int .i64 0) := hk.cell 4
  have df4 := hk.free 4
  have d5 : w3.cell? ⟨W.heap.size + 2, 5, none⟩ = some (.string ByteArray.empty) := hk.cell 5
  have df5 := hk.free 5
  have n0 : w3.cell? ⟨w2.heap.size, 0, none⟩ = some (.int .i64 2) := hn.cell 0
  have n1 : w3.cell? ⟨w2.heap.size, 1, none⟩ = some (.int .i64 k) := hn.cell 1
  have n2 : w3.cell? ⟨w2.heap.size, 2, none⟩ = some (.string r.target) := hn.cell 2
  have n3 : w3.cell? ⟨w2.heap.size, 3, none⟩ = some (.int .i64 0) := hn.cell 3
  have n4 : w3.cell? ⟨w2.heap.size, 4, none⟩ = some (.int .i64 0) := hn.cell 4
  have n5 : w3.cell? ⟨w2.heap.size, 5, none⟩ = some (.string ByteArray.empty) := hn.cell 5
  have hlt := hk.lt
  have hlt2 := hn.lt
  clear hw3 hk hn HKR p5 p6 p7 p8 q1 q2 hl0 hl1
  go_wp2_with fail
  refine bodyPost_ret (by simp [results, Try.results107, go_sem, d0, d1, d2, d3, d4, d5]; try rfl) rfl ?_
  exact ⟨rfl, HB3.out.trans (by have := HB3.out.size; go_grown; all_goals omega)⟩
set_option maxRecDepth 100000 in
set_option maxHeartbeats 4000000 in
theorem trouble_ft (r : Rl) (k x0 x1 x2 : Int) (W : World) (hq : firesR x0 r.ap = false) (hq1 : firesR x1 r.dp = false) (hq2 : firesR x2 r.mp = true) :
    Calls Try.prog 107 #[.agg #[.int .i64 r.rank, .slice r.pa r.preds.length r.pcap, .string r.target, .int .i64 r.ap, .int .i64 r.as_, .int .i64 r.dp, .int .i64 r.dt, .int .i64 r.mp, .string r.mirror, .int .i64 r.sample, .int .i64 k], .agg #[.int .i64 x0, .int .i64 x1, .int .i64 x2]] W fun e w' => e = .returned (.agg #[.int .i64 2, .int .i64 k, .string r.target, .int .i64 0, .int .i64 0, .string r.mirror]) ∧ Below W.heap.size W w' := by
  have HA := hid (fun w => abort_any r k x0 false w hq)
  have HP := hid (fun w => pass_any r k w)
  have HF1 := hid (fun w => fires_any x1 r.dp false w hq1)
  have HF2 := hid (fun w => fires_any x2 r.mp true w hq2)
  have HB0 : Hid (Below W.heap.size W (((W.alloc (.cells #[.int .i64 r.rank, .slice r.pa r.preds.length r.pcap, .string r.target, .int .i64 r.ap, .int .i64 r.as_, .int .i64 r.dp, .int .i64 r.dt, .int .i64 r.mp, .string r.mirror, .int .i64 r.sample, .int .i64 k] 192)).alloc (.cells #[.int .i64 x0, .int .i64 x1, .int .i64 x2] 114)).alloc (.cells #[.int .i64 0, .int .i64 0, .string ByteArray.empty, .int .i64 0, .int .i64 0, .string ByteArray.empty] 118))) := by show Below _ _ _; go_grown
  have HK0 := hid (((Blk.new W #[.int .i64 r.rank, .slice r.pa r.preds.length r.pcap, .string r.target, .int .i64 r.ap, .int .i64 r.as_, .int .i64 r.dp, .int .i64 r.dt, .int .i64 r.mp, .string r.mirror, .int .i64 r.sample, .int .i64 k] 192).alloc (.cells #[.int .i64 x0, .int .i64 x1, .int .i64 x2] 114)).alloc (.cells #[.int .i64 0, .int .i64 0, .string ByteArray.empty, .int .i64 0, .int .i64 0, .string ByteArray.empty] 118))
  have HK1 := hid ((Blk.new' (W.alloc (.cells #[.int .i64 r.rank, .slice r.pa r.preds.length r.pcap, .string r.target, .int .i64 r.ap, .int .i64 r.as_, .int .i64 r.dp, .int .i64 r.dt, .int .i64 r.mp, .string r.mirror, .int .i64 r.sample, .int .i64 k] 192)) #[.int .i64 x0, .int .i64 x1, .int .i64 x2] 114 (n := W.heap.size + 1) (by simp)).alloc (.cells #[.int .i64 0, .int .i64 0, .string ByteArray.empty, .int .i64 0, .int .i64 0, .string ByteArray.empty] 118))
  have HK2 := hid (Blk.new' ((W.alloc (.cells #[.int .i64 r.rank, .slice r.pa r.preds.length r.pcap, .string r.target, .int .i64 r.ap, .int .i64 r.as_, .int .i64 r.dp, .int .i64 r.dt, .int .i64 r.mp, .string r.mirror, .int .i64 r.sample, .int .i64 k] 192)).alloc (.cells #[.int .i64 x0, .int .i64 x1, .int .i64 x2] 114)) #[.int .i64 0, .int .i64 0, .string ByteArray.empty, .int .i64 0, .int .i64 0, .string ByteArray.empty] 118 (n := W.heap.size + 2) (by simp))
  clear hq hq1 hq2
  go_enter Try.func107, Try.ntmps107
  go_wp2_with fail
  refine (HA.out _).mono ?_
  rintro e w1 ⟨rfl, hb1⟩
  have HB1 := hid (HB0.out.trans (hb1.mono HB0.out.size))
  have HQ1 := hid hb1
  have g0 : w1.cell? ⟨W.heap.size, 0, none⟩ = some (.int .i64 r.rank) := (HK0.out.later hb1).cell 0
  have g1 : w1.cell? ⟨W.heap.size, 1, none⟩ = some (.slice r.pa r.preds.length r.pcap) := (HK0.out.later hb1).cell 1
  have g2 : w1.cell? ⟨W.heap.size, 2, none⟩ = some (.string r.target) := (HK0.out.later hb1).cell 2
  have g3 : w1.cell? ⟨W.heap.size, 3, none⟩ = some (.int .i64 r.ap) := (HK0.out.later hb1).cell 3
  have g4 : w1.cell? ⟨W.heap.size, 4, none⟩ = some (.int .i64 r.as_) := (HK0.out.later hb1).cell 4
  have g5 : w1.cell? ⟨W.heap.size, 5, none⟩ = some (.int .i64 r.dp) := (HK0.out.later hb1).cell 5
  have g6 : w1.cell? ⟨W.heap.size, 6, none⟩ = some (.int .i64 r.dt) := (HK0.out.later hb1).cell 6
  have g7 : w1.cell? ⟨W.heap.size, 7, none⟩ = some (.int .i64 r.mp) := (HK0.out.later hb1).cell 7
  have g8 : w1.cell? ⟨W.heap.size, 8, none⟩ = some (.string r.mirror) := (HK0.out.later hb1).cell 8
  have g9 : w1.cell? ⟨W.heap.size, 9, none⟩ = some (.int .i64 r.sample) := (HK0.out.later hb1).cell 9
  have g10 : w1.cell? ⟨W.heap.size, 10, none⟩ = some (.int .i64 k) := (HK0.out.later hb1).cell 10
  have hlt0 := (HK0.out.later hb1).lt
  clear hb1 HA
  go_wp2_with fail
  refine (HP.out _).mono ?_
  rintro e w2 ⟨rfl, hb2⟩
  have hbw : Below w1.heap.size w1 w2 := Below.trans (by go_grown) (hb2.mono (by simp))
  have HQ2 := hid (HQ1.out.trans (hbw.mono HQ1.out.size))
  have HB2 := hid (HB0.out.trans (HQ2.out.mono HB0.out.size))
  have hk0 := HK0.out.later HQ2.out
  have hk1 := HK1.out.later HQ2.out
  have hk2 := HK2.out.later HQ2.out
  have p5 : w2.cell? ⟨W.heap.size, 5, none⟩ = some (.int .i64 r.dp) := hk0.cell 5
  have p6 : w2.cell? ⟨W.heap.size, 6, none⟩ = some (.int .i64 r.dt) := hk0.cell 6
  have p7 : w2.cell? ⟨W.heap.size, 7, none⟩ = some (.int .i64 r.mp) := hk0.cell 7
  have p8 : w2.cell? ⟨W.heap.size, 8, none⟩ = some (.string r.mirror) := hk0.cell 8
  have q1 : w2.cell? ⟨W.heap.size + 1, 1, none⟩ = some (.int .i64 x1) := hk1.cell 1
  have q2 : w2.cell? ⟨W.heap.size + 1, 2, none⟩ = some (.int .i64 x2) := hk1.cell 2
  have hl0 := hk0.lt
  have hl1 := hk1.lt
  have HKR := hid hk2
  clear hb2 hbw hk0 hk1 hk2 HP g0 g1 g2 g3 g4 g5 g6 g7 g8 g9 g10 hlt0
  go_wp2_with fail
  refine (HF1.out _).mono ?_
  rintro e w' ⟨rfl, rfl⟩
  go_wp2_with fail
  refine (HF2.out _).mono ?_
  rintro e w' ⟨rfl, rfl⟩
  go_upto_region 9 with fail
  refine wp_gen ?_
  intro w3 hw3
  have hk : Blk w3 (W.heap.size + 2) #[.int .i64 0, .int .i64 0, .string ByteArray.empty, .int .i64 0, .int .i64 0, .string ByteArray.empty] 118 := by rw [hw3]; exact HKR.out.alloc _
  have hn : Blk w3 w2.heap.size #[.int .i64 2, .int .i64 k, .string r.target, .int .i64 0, .int .i64 0, .string r.mirror] 118 := by rw [hw3]; exact Blk.new _ _ _
  have HB3 : Hid (Below W.heap.size W w3) := by show Below _ _ _; rw [hw3]; exact HB2.out.alloc HB2.out.size _
  have d0 : w3.cell? ⟨W.heap.size + 2, 0, none⟩ = some (.int .i64 0) := hk.cell 0
  have df0 := hk.free 0
  have d1 : w3.cell? ⟨W.heap.size + 2, 1, none⟩ = some (.int .i64 0) := hk.cell 1
  have df1 := hk.free 1
  have d2 : w3.cell? ⟨W.heap.size + 2, 2, none⟩ = some (.string ByteArray.empty) := hk.cell 2
  have df2 := hk.free 2
  have d3 : w3.cell? ⟨W.heap.size + 2, 3, none⟩ = some (.int .i64 0) := hk.cell 3
  have df3 := hk.free 3
  have d4 : w3.cell? ⟨W.heap.size + 2, 4, none⟩ = some (.int .i64 0) := hk.cell 4
  have df4 := hk.free 4
  have d5 : w3.cell? ⟨W.heap.size + 2, 5, none⟩ = some (.string ByteArray.empty) := hk.cell 5
  have df5 := hk.free 5
  have n0 : w3.cell? ⟨w2.heap.size, 0, none⟩ = some (.int .i64 2) := hn.cell 0
  have n1 : w3.cell? ⟨w2.heap.size, 1, none⟩ = some (.int .i64 k) := hn.cell 1
  have n2 : w3.cell? ⟨w2.heap.size, 2, none⟩ = some (.string r.target) := hn.cell 2
  have n3 : w3.cell? ⟨w2.heap.size, 3, none⟩ = some (.int .i64 0) := hn.cell 3
  have n4 : w3.cell? ⟨w2.heap.size, 4, none⟩ = some (.int .i64 0) := hn.cell 4
  have n5 : w3.cell? ⟨w2.heap.size, 5, none⟩ = some (.string r.mirror) := hn.cell 5
  have hlt := hk.lt
  have hlt2 := hn.lt
  clear hw3 hk hn HKR p5 p6 p7 p8 q1 q2 hl0 hl1
  go_wp2_with fail
  refine bodyPost_ret (by simp [results, Try.results107, go_sem, d0, d1, d2, d3, d4, d5]; try rfl) rfl ?_
  exact ⟨rfl, HB3.out.trans (by have := HB3.out.size; go_grown; all_goals omega)⟩
set_option maxRecDepth 100000 in
set_option maxHeartbeats 4000000 in
theorem trouble_tf (r : Rl) (k x0 x1 x2 : Int) (W : World) (hq : firesR x0 r.ap = false) (hq1 : firesR x1 r.dp = true) (hq2 : firesR x2 r.mp = false) :
    Calls Try.prog 107 #[.agg #[.int .i64 r.rank, .slice r.pa r.preds.length r.pcap, .string r.target, .int .i64 r.ap, .int .i64 r.as_, .int .i64 r.dp, .int .i64 r.dt, .int .i64 r.mp, .string r.mirror, .int .i64 r.sample, .int .i64 k], .agg #[.int .i64 x0, .int .i64 x1, .int .i64 x2]] W fun e w' => e = .returned (.agg #[.int .i64 2, .int .i64 k, .string r.target, .int .i64 0, .int .i64 r.dt, .string ByteArray.empty]) ∧ Below W.heap.size W w' := by
  have HA := hid (fun w => abort_any r k x0 false w hq)
  have HP := hid (fun w => pass_any r k w)
  have HF1 := hid (fun w => fires_any x1 r.dp true w hq1)
  have HF2 := hid (fun w => fires_any x2 r.mp false w hq2)
  have HB0 : Hid (Below W.heap.size W (((W.alloc (.cells #[.int .i64 r.rank, .slice r.pa r.preds.length r.pcap, .string r.target, .int .i64 r.ap, .int .i64 r.as_, .int .i64 r.dp, .int .i64 r.dt, .int .i64 r.mp, .string r.mirror, .int .i64 r.sample, .int .i64 k] 192)).alloc (.cells #[.int .i64 x0, .int .i64 x1, .int .i64 x2] 114)).alloc (.cells #[.int .i64 0, .int .i64 0, .string ByteArray.empty, .int .i64 0, .int .i64 0, .string ByteArray.empty] 118))) := by show Below _ _ _; go_grown
  have HK0 := hid (((Blk.new W #[.int .i64 r.rank, .slice r.pa r.preds.length r.pcap, .string r.target, .int .i64 r.ap, .int .i64 r.as_, .int .i64 r.dp, .int .i64 r.dt, .int .i64 r.mp, .string r.mirror, .int .i64 r.sample, .int .i64 k] 192).alloc (.cells #[.int .i64 x0, .int .i64 x1, .int .i64 x2] 114)).alloc (.cells #[.int .i64 0, .int .i64 0, .string ByteArray.empty, .int .i64 0, .int .i64 0, .string ByteArray.empty] 118))
  have HK1 := hid ((Blk.new' (W.alloc (.cells #[.int .i64 r.rank, .slice r.pa r.preds.length r.pcap, .string r.target, .int .i64 r.ap, .int .i64 r.as_, .int .i64 r.dp, .int .i64 r.dt, .int .i64 r.mp, .string r.mirror, .int .i64 r.sample, .int .i64 k] 192)) #[.int .i64 x0, .int .i64 x1, .int .i64 x2] 114 (n := W.heap.size + 1) (by simp)).alloc (.cells #[.int .i64 0, .int .i64 0, .string ByteArray.empty, .int .i64 0, .int .i64 0, .string ByteArray.empty] 118))
  have HK2 := hid (Blk.new' ((W.alloc (.cells #[.int .i64 r.rank, .slice r.pa r.preds.length r.pcap, .string r.target, .int .i64 r.ap, .int .i64 r.as_, .int .i64 r.dp, .int .i64 r.dt, .int .i64 r.mp, .string r.mirror, .int .i64 r.sample, .int .i64 k] 192)).alloc (.cells #[.int .i64 x0, .int .i64 x1, .int .i64 x2] 114)) #[.int .i64 0, .int .i64 0, .string ByteArray.empty, .int .i64 0, .int .i64 0, .string ByteArray.empty] 118 (n := W.heap.size + 2) (by simp))
  clear hq hq1 hq2
  go_enter Try.func107, Try.ntmps107
  go_wp2_with fail
  refine (HA.out _).mono ?_
  rintro e w1 ⟨rfl, hb1⟩
  have HB1 := hid (HB0.out.trans (hb1.mono HB0.out.size))
  have HQ1 := hid hb1
  have g0 : w1.cell? ⟨W.heap.size, 0, none⟩ = some (.int .i64 r.rank) := (HK0.out.later hb1).cell 0
  have g1 : w1.cell? ⟨W.heap.size, 1, none⟩ = some (.slice r.pa r.preds.length r.pcap) := (HK0.out.later hb1).cell 1
  have g2 : w1.cell? ⟨W.heap.size, 2, none⟩ = some (.string r.target) := (HK0.out.later hb1).cell 2
  have g3 : w1.cell? ⟨W.heap.size, 3, none⟩ = some (.int .i64 r.ap) := (HK0.out.later hb1).cell 3
  have g4 : w1.cell? ⟨W.heap.size, 4, none⟩ = some (.int .i64 r.as_) := (HK0.out.later hb1).cell 4
  have g5 : w1.cell? ⟨W.heap.size, 5, none⟩ = some (.int .i64 r.dp) := (HK0.out.later hb1).cell 5
  have g6 : w1.cell? ⟨W.heap.size, 6, none⟩ = some (.int .i64 r.dt) := (HK0.out.later hb1).cell 6
  have g7 : w1.cell? ⟨W.heap.size, 7, none⟩ = some (.int .i64 r.mp) := (HK0.out.later hb1).cell 7
  have g8 : w1.cell? ⟨W.heap.size, 8, none⟩ = some (.string r.mirror) := (HK0.out.later hb1).cell 8
  have g9 : w1.cell? ⟨W.heap.size, 9, none⟩ = some (.int .i64 r.sample) := (HK0.out.later hb1).cell 9
  have g10 : w1.cell? ⟨W.heap.size, 10, none⟩ = some (.int .i64 k) := (HK0.out.later hb1).cell 10
  have hlt0 := (HK0.out.later hb1).lt
  clear hb1 HA
  go_wp2_with fail
  refine (HP.out _).mono ?_
  rintro e w2 ⟨rfl, hb2⟩
  have hbw : Below w1.heap.size w1 w2 := Below.trans (by go_grown) (hb2.mono (by simp))
  have HQ2 := hid (HQ1.out.trans (hbw.mono HQ1.out.size))
  have HB2 := hid (HB0.out.trans (HQ2.out.mono HB0.out.size))
  have hk0 := HK0.out.later HQ2.out
  have hk1 := HK1.out.later HQ2.out
  have hk2 := HK2.out.later HQ2.out
  have p5 : w2.cell? ⟨W.heap.size, 5, none⟩ = some (.int .i64 r.dp) := hk0.cell 5
  have p6 : w2.cell? ⟨W.heap.size, 6, none⟩ = some (.int .i64 r.dt) := hk0.cell 6
  have p7 : w2.cell? ⟨W.heap.size, 7, none⟩ = some (.int .i64 r.mp) := hk0.cell 7
  have p8 : w2.cell? ⟨W.heap.size, 8, none⟩ = some (.string r.mirror) := hk0.cell 8
  have q1 : w2.cell? ⟨W.heap.size + 1, 1, none⟩ = some (.int .i64 x1) := hk1.cell 1
  have q2 : w2.cell? ⟨W.heap.size + 1, 2, none⟩ = some (.int .i64 x2) := hk1.cell 2
  have hl0 := hk0.lt
  have hl1 := hk1.lt
  have HKR := hid hk2
  clear hb2 hbw hk0 hk1 hk2 HP g0 g1 g2 g3 g4 g5 g6 g7 g8 g9 g10 hlt0
  go_wp2_with fail
  refine (HF1.out _).mono ?_
  rintro e w' ⟨rfl, rfl⟩
  go_wp2_with fail
  refine (HF2.out _).mono ?_
  rintro e w' ⟨rfl, rfl⟩
  go_upto_region 9 with fail
  refine wp_gen ?_
  intro w3 hw3
  have hk : Blk w3 (W.heap.size + 2) #[.int .i64 0, .int .i64 0, .string ByteArray.empty, .int .i64 0, .int .i64 0, .string ByteArray.empty] 118 := by rw [hw3]; exact HKR.out.alloc _
  have hn : Blk w3 w2.heap.size #[.int .i64 2, .int .i64 k, .string r.target, .int .i64 0, .int .i64 r.dt, .string ByteArray.empty] 118 := by rw [hw3]; exact Blk.new _ _ _
  have HB3 : Hid (Below W.heap.size W w3) := by show Below _ _ _; rw [hw3]; exact HB2.out.alloc HB2.out.size _
  have d0 : w3.cell? ⟨W.heap.size + 2, 0, none⟩ = some (.int .i64 0) := hk.cell 0
  have df0 := hk.free 0
  have d1 : w3.cell? ⟨W.heap.size + 2, 1, none⟩ = some (.int .i64 0) := hk.cell 1
  have df1 := hk.free 1
  have d2 : w3.cell? ⟨W.heap.size + 2, 2, none⟩ = some (.string ByteArray.empty) := hk.cell 2
  have df2 := hk.free 2
  have d3 : w3.cell? ⟨W.heap.size + 2, 3, none⟩ = some (.int .i64 0) := hk.cell 3
  have df3 := hk.free 3
  have d4 : w3.cell? ⟨W.heap.size + 2, 4, none⟩ = some (.int .i64 0) := hk.cell 4
  have df4 := hk.free 4
  have d5 : w3.cell? ⟨W.heap.size + 2, 5, none⟩ = some (.string ByteArray.empty) := hk.cell 5
  have df5 := hk.free 5
  have n0 : w3.cell? ⟨w2.heap.size, 0, none⟩ = some (.int .i64 2) := hn.cell 0
  have n1 : w3.cell? ⟨w2.heap.size, 1, none⟩ = some (.int .i64 k) := hn.cell 1
  have n2 : w3.cell? ⟨w2.heap.size, 2, none⟩ = some (.string r.target) := hn.cell 2
  have n3 : w3.cell? ⟨w2.heap.size, 3, none⟩ = some (.int .i64 0) := hn.cell 3
  have n4 : w3.cell? ⟨w2.heap.size, 4, none⟩ = some (.int .i64 r.dt) := hn.cell 4
  have n5 : w3.cell? ⟨w2.heap.size, 5, none⟩ = some (.string ByteArray.empty) := hn.cell 5
  have hlt := hk.lt
  have hlt2 := hn.lt
  clear hw3 hk hn HKR p5 p6 p7 p8 q1 q2 hl0 hl1
  go_wp2_with fail
  refine bodyPost_ret (by simp [results, Try.results107, go_sem, d0, d1, d2, d3, d4, d5]; try rfl) rfl ?_
  exact ⟨rfl, HB3.out.trans (by have := HB3.out.size; go_grown; all_goals omega)⟩
set_option maxRecDepth 100000 in
set_option maxHeartbeats 4000000 in
theorem trouble_tt (r : Rl) (k x0 x1 x2 : Int) (W : World) (hq : firesR x0 r.ap = false) (hq1 : firesR x1 r.dp = true) (hq2 : firesR x2 r.mp = true) :
    Calls Try.prog 107 #[.agg #[.int .i64 r.rank, .slice r.pa r.preds.length r.pcap, .string r.target, .int .i64 r.ap, .int .i64 r.as_, .int .i64 r.dp, .int .i64 r.dt, .int .i64 r.mp, .string r.mirror, .int .i64 r.sample, .int .i64 k], .agg #[.int .i64 x0, .int .i64 x1, .int .i64 x2]] W fun e w' => e = .returned (.agg #[.int .i64 2, .int .i64 k, .string r.target, .int .i64 0, .int .i64 r.dt, .string r.mirror]) ∧ Below W.heap.size W w' := by
  have HA := hid (fun w => abort_any r k x0 false w hq)
  have HP := hid (fun w => pass_any r k w)
  have HF1 := hid (fun w => fires_any x1 r.dp true w hq1)
  have HF2 := hid (fun w => fires_any x2 r.mp true w hq2)
  have HB0 : Hid (Below W.heap.size W (((W.alloc (.cells #[.int .i64 r.rank, .slice r.pa r.preds.length r.pcap, .string r.target, .int .i64 r.ap, .int .i64 r.as_, .int .i64 r.dp, .int .i64 r.dt, .int .i64 r.mp, .string r.mirror, .int .i64 r.sample, .int .i64 k] 192)).alloc (.cells #[.int .i64 x0, .int .i64 x1, .int .i64 x2] 114)).alloc (.cells #[.int .i64 0, .int .i64 0, .string ByteArray.empty, .int .i64 0, .int .i64 0, .string ByteArray.empty] 118))) := by show Below _ _ _; go_grown
  have HK0 := hid (((Blk.new W #[.int .i64 r.rank, .slice r.pa r.preds.length r.pcap, .string r.target, .int .i64 r.ap, .int .i64 r.as_, .int .i64 r.dp, .int .i64 r.dt, .int .i64 r.mp, .string r.mirror, .int .i64 r.sample, .int .i64 k] 192).alloc (.cells #[.int .i64 x0, .int .i64 x1, .int .i64 x2] 114)).alloc (.cells #[.int .i64 0, .int .i64 0, .string ByteArray.empty, .int .i64 0, .int .i64 0, .string ByteArray.empty] 118))
  have HK1 := hid ((Blk.new' (W.alloc (.cells #[.int .i64 r.rank, .slice r.pa r.preds.length r.pcap, .string r.target, .int .i64 r.ap, .int .i64 r.as_, .int .i64 r.dp, .int .i64 r.dt, .int .i64 r.mp, .string r.mirror, .int .i64 r.sample, .int .i64 k] 192)) #[.int .i64 x0, .int .i64 x1, .int .i64 x2] 114 (n := W.heap.size + 1) (by simp)).alloc (.cells #[.int .i64 0, .int .i64 0, .string ByteArray.empty, .int .i64 0, .int .i64 0, .string ByteArray.empty] 118))
  have HK2 := hid (Blk.new' ((W.alloc (.cells #[.int .i64 r.rank, .slice r.pa r.preds.length r.pcap, .string r.target, .int .i64 r.ap, .int .i64 r.as_, .int .i64 r.dp, .int .i64 r.dt, .int .i64 r.mp, .string r.mirror, .int .i64 r.sample, .int .i64 k] 192)).alloc (.cells #[.int .i64 x0, .int .i64 x1, .int .i64 x2] 114)) #[.int .i64 0, .int .i64 0, .string ByteArray.empty, .int .i64 0, .int .i64 0, .string ByteArray.empty] 118 (n := W.heap.size + 2) (by simp))
  clear hq hq1 hq2
  go_enter Try.func107, Try.ntmps107
  go_wp2_with fail
  refine (HA.out _).mono ?_
  rintro e w1 ⟨rfl, hb1⟩
  have HB1 := hid (HB0.out.trans (hb1.mono HB0.out.size))
  have HQ1 := hid hb1
  have g0 : w1.cell? ⟨W.heap.size, 0, none⟩ = some (.int .i64 r.rank) := (HK0.out.later hb1).cell 0
  have g1 : w1.cell? ⟨W.heap.size, 1, none⟩ = some (.slice r.pa r.preds.length r.pcap) := (HK0.out.later hb1).cell 1
  have g2 : w1.cell? ⟨W.heap.size, 2, none⟩ = some (.string r.target) := (HK0.out.later hb1).cell 2
  have g3 : w1.cell? ⟨W.heap.size, 3, none⟩ = some (.int .i64 r.ap) := (HK0.out.later hb1).cell 3
  have g4 : w1.cell? ⟨W.heap.size, 4, none⟩ = some (.int .i64 r.as_) := (HK0.out.later hb1).cell 4
  have g5 : w1.cell? ⟨W.heap.size, 5, none⟩ = some (.int .i64 r.dp) := (HK0.out.later hb1).cell 5
  have g6 : w1.cell? ⟨W.heap.size, 6, none⟩ = some (.int .i64 r.dt) := (HK0.out.later hb1).cell 6
  have g7 : w1.cell? ⟨W.heap.size, 7, none⟩ = some (.int .i64 r.mp) := (HK0.out.later hb1).cell 7
  have g8 : w1.cell? ⟨W.heap.size, 8, none⟩ = some (.string r.mirror) := (HK0.out.later hb1).cell 8
  have g9 : w1.cell? ⟨W.heap.size, 9, none⟩ = some (.int .i64 r.sample) := (HK0.out.later hb1).cell 9
  have g10 : w1.cell? ⟨W.heap.size, 10, none⟩ = some (.int .i64 k) := (HK0.out.later hb1).cell 10
  have hlt0 := (HK0.out.later hb1).lt
  clear hb1 HA
  go_wp2_with fail
  refine (HP.out _).mono ?_
  rintro e w2 ⟨rfl, hb2⟩
  have hbw : Below w1.heap.size w1 w2 := Below.trans (by go_grown) (hb2.mono (by simp))
  have HQ2 := hid (HQ1.out.trans (hbw.mono HQ1.out.size))
  have HB2 := hid (HB0.out.trans (HQ2.out.mono HB0.out.size))
  have hk0 := HK0.out.later HQ2.out
  have hk1 := HK1.out.later HQ2.out
  have hk2 := HK2.out.later HQ2.out
  have p5 : w2.cell? ⟨W.heap.size, 5, none⟩ = some (.int .i64 r.dp) := hk0.cell 5
  have p6 : w2.cell? ⟨W.heap.size, 6, none⟩ = some (.int .i64 r.dt) := hk0.cell 6
  have p7 : w2.cell? ⟨W.heap.size, 7, none⟩ = some (.int .i64 r.mp) := hk0.cell 7
  have p8 : w2.cell? ⟨W.heap.size, 8, none⟩ = some (.string r.mirror) := hk0.cell 8
  have q1 : w2.cell? ⟨W.heap.size + 1, 1, none⟩ = some (.int .i64 x1) := hk1.cell 1
  have q2 : w2.cell? ⟨W.heap.size + 1, 2, none⟩ = some (.int .i64 x2) := hk1.cell 2
  have hl0 := hk0.lt
  have hl1 := hk1.lt
  have HKR := hid hk2
  clear hb2 hbw hk0 hk1 hk2 HP g0 g1 g2 g3 g4 g5 g6 g7 g8 g9 g10 hlt0
  go_wp2_with fail
  refine (HF1.out _).mono ?_
  rintro e w' ⟨rfl, rfl⟩
  go_wp2_with fail
  refine (HF2.out _).mono ?_
  rintro e w' ⟨rfl, rfl⟩
  go_upto_region 9 with fail
  refine wp_gen ?_
  intro w3 hw3
  have hk : Blk w3 (W.heap.size + 2) #[.int .i64 0, .int .i64 0, .string ByteArray.empty, .int .i64 0, .int .i64 0, .string ByteArray.empty] 118 := by rw [hw3]; exact HKR.out.alloc _
  have hn : Blk w3 w2.heap.size #[.int .i64 2, .int .i64 k, .string r.target, .int .i64 0, .int .i64 r.dt, .string r.mirror] 118 := by rw [hw3]; exact Blk.new _ _ _
  have HB3 : Hid (Below W.heap.size W w3) := by show Below _ _ _; rw [hw3]; exact HB2.out.alloc HB2.out.size _
  have d0 : w3.cell? ⟨W.heap.size + 2, 0, none⟩ = some (.int .i64 0) := hk.cell 0
  have df0 := hk.free 0
  have d1 : w3.cell? ⟨W.heap.size + 2, 1, none⟩ = some (.int .i64 0) := hk.cell 1
  have df1 := hk.free 1
  have d2 : w3.cell? ⟨W.heap.size + 2, 2, none⟩ = some (.string ByteArray.empty) := hk.cell 2
  have df2 := hk.free 2
  have d3 : w3.cell? ⟨W.heap.size + 2, 3, none⟩ = some (.int .i64 0) := hk.cell 3
  have df3 := hk.free 3
  have d4 : w3.cell? ⟨W.heap.size + 2, 4, none⟩ = some (.int .i64 0) := hk.cell 4
  have df4 := hk.free 4
  have d5 : w3.cell? ⟨W.heap.size + 2, 5, none⟩ = some (.string ByteArray.empty) := hk.cell 5
  have df5 := hk.free 5
  have n0 : w3.cell? ⟨w2.heap.size, 0, none⟩ = some (.int .i64 2) := hn.cell 0
  have n1 : w3.cell? ⟨w2.heap.size, 1, none⟩ = some (.int .i64 k) := hn.cell 1
  have n2 : w3.cell? ⟨w2.heap.size, 2, none⟩ = some (.string r.target) := hn.cell 2
  have n3 : w3.cell? ⟨w2.heap.size, 3, none⟩ = some (.int .i64 0) := hn.cell 3
  have n4 : w3.cell? ⟨w2.heap.size, 4, none⟩ = some (.int .i64 r.dt) := hn.cell 4
  have n5 : w3.cell? ⟨w2.heap.size, 5, none⟩ = some (.string r.mirror) := hn.cell 5
  have hlt := hk.lt
  have hlt2 := hn.lt
  clear hw3 hk hn HKR p5 p6 p7 p8 q1 q2 hl0 hl1
  go_wp2_with fail
  refine bodyPost_ret (by simp [results, Try.results107, go_sem, d0, d1, d2, d3, d4, d5]; try rfl) rfl ?_
  exact ⟨rfl, HB3.out.trans (by have := HB3.out.size; go_grown; all_goals omega)⟩
theorem trouble_any (r : Rl) (k x0 x1 x2 : Int) (x : Ac) (W : World) (hx : troubleR r k x0 x1 x2 = x) :
    Calls Try.prog 107 #[.agg #[.int .i64 r.rank, .slice r.pa r.preds.length r.pcap, .string r.target, .int .i64 r.ap, .int .i64 r.as_, .int .i64 r.dp, .int .i64 r.dt, .int .i64 r.mp, .string r.mirror, .int .i64 r.sample, .int .i64 k], .agg #[.int .i64 x0, .int .i64 x1, .int .i64 x2]] W fun e w' => e = .returned (.agg #[.int .i64 x.kind, .int .i64 x.rule, .string x.target, .int .i64 x.status, .int .i64 x.delay, .string x.mirror]) ∧ Below W.heap.size W w' := by
  subst hx
  unfold troubleR
  cases h0 : firesR x0 r.ap
  · cases h1 : firesR x1 r.dp
    · cases h2 : firesR x2 r.mp
      · exact trouble_ff r k x0 x1 x2 W h0 h1 h2
      · exact trouble_ft r k x0 x1 x2 W h0 h1 h2
    · cases h2 : firesR x2 r.mp
      · exact trouble_tf r k x0 x1 x2 W h0 h1 h2
      · exact trouble_tt r k x0 x1 x2 W h0 h1 h2
  · exact trouble_abort r k x0 x1 x2 W h0
set_option maxRecDepth 100000 in
set_option maxHeartbeats 4000000 in
theorem of_none {B : Nat} (n : Int) (l : List Rl) (a : Option Addr) (cap : Nat) (f : ByteArray) (m h p b : ByteArray) (hs : List Hd) (a0 : Option Addr) (cap0 : Nat) (W : World) (ht : TabV W B l a cap f) (hq : ReqV W B m h p b hs a0 cap0) (hB : B ≤ W.heap.size) (hn : hs.length ≤ 1000000) (hps : ∀ r ∈ l, r.preds.length ≤ 1000000000) (x0 x1 x2 : Int) (sh : Bool) (hr : lookR m h p hs l = -1) :
    Calls Try.prog 68 #[.agg #[.int .i64 n, .slice a l.length cap, .string f], .agg #[.string m, .string h, .string p, .slice a0 hs.length cap0, .string b], .agg #[.int .i64 x0, .int .i64 x1, .int .i64 x2], .bool sh] W fun e w' => e = .returned (.agg #[.int .i64 0, .int .i64 (-1), .string ByteArray.empty, .int .i64 404, .int .i64 0, .string ByteArray.empty]) ∧ Below W.heap.size W w' := by
  have HA := hid (fun w' (hw : Below W.heap.size W w') => find_none n l a cap f m h p b hs a0 cap0 w' (ht.below (hw.mono hB)) (hq.below (hw.mono hB)) (Nat.le_trans hB hw.size) hn hps hr)
  have HB0 : Hid (Below W.heap.size W ((((W.alloc (.cells #[.int .i64 n, .slice a l.length cap, .string f] 110)).alloc (.cells #[.string m, .string h, .string p, .slice a0 hs.length cap0, .string b] 113)).alloc (.cells #[.int .i64 x0, .int .i64 x1, .int .i64 x2] 114)).alloc (.cells #[.int .i64 0, .int .i64 0, .string ByteArray.empty, .int .i64 0, .int .i64 0, .string ByteArray.empty] 118))) := by show Below _ _ _; go_grown
  have HK2 := hid ((Blk.new' ((W.alloc (.cells #[.int .i64 n, .slice a l.length cap, .string f] 110)).alloc (.cells #[.string m, .string h, .string p, .slice a0 hs.length cap0, .string b] 113)) #[.int .i64 x0, .int .i64 x1, .int .i64 x2] 114 (n := W.heap.size + 2) (by simp)).alloc (.cells #[.int .i64 0, .int .i64 0, .string ByteArray.empty, .int .i64 0, .int .i64 0, .string ByteArray.empty] 118))
  have HK3 := hid (Blk.new' (((W.alloc (.cells #[.int .i64 n, .slice a l.length cap, .string f] 110)).alloc (.cells #[.string m, .string h, .string p, .slice a0 hs.length cap0, .string b] 113)).alloc (.cells #[.int .i64 x0, .int .i64 x1, .int .i64 x2] 114)) #[.int .i64 0, .int .i64 0, .string ByteArray.empty, .int .i64 0, .int .i64 0, .string ByteArray.empty] 118 (n := W.heap.size + 3) (by simp))
  clear ht hq hps hr
  go_enter Try.func68, Try.ntmps68
  go_wp2_with fail
  refine (HA.out _ HB0.out).mono ?_
  rintro e w1 ⟨rfl, hb1⟩
  have HK := hid (HK3.out.later hb1)
  have HB1 := hid (HB0.out.trans (hb1.mono HB0.out.size))
  clear hb1 HA
  go_upto_region 3 with fail
  refine wp_gen ?_
  intro w2 hw2
  have hk : Blk w2 (W.heap.size + 3) #[.int .i64 0, .int .i64 0, .string ByteArray.empty, .int .i64 0, .int .i64 0, .string ByteArray.empty] 118 := by rw [hw2]; exact HK.out.alloc _
  have HB2 : Hid (Below W.heap.size W w2) := by show Below _ _ _; rw [hw2]; exact HB1.out.alloc HB1.out.size _
  have d0 : w2.cell? ⟨W.heap.size + 3, 0, none⟩ = some (.int .i64 0) := hk.cell 0
  have df0 := hk.free 0
  have d1 : w2.cell? ⟨W.heap.size + 3, 1, none⟩ = some (.int .i64 0) := hk.cell 1
  have df1 := hk.free 1
  have d2 : w2.cell? ⟨W.heap.size + 3, 2, none⟩ = some (.string ByteArray.empty) := hk.cell 2
  have df2 := hk.free 2
  have d3 : w2.cell? ⟨W.heap.size + 3, 3, none⟩ = some (.int .i64 0) := hk.cell 3
  have df3 := hk.free 3
  have d4 : w2.cell? ⟨W.heap.size + 3, 4, none⟩ = some (.int .i64 0) := hk.cell 4
  have df4 := hk.free 4
  have d5 : w2.cell? ⟨W.heap.size + 3, 5, none⟩ = some (.string ByteArray.empty) := hk.cell 5
  have df5 := hk.free 5
  have hlt := hk.lt
  clear hw2 hk HK
  go_wp2_with fail
  refine bodyPost_ret (by simp [results, Try.results68, go_sem, d0, d1, d2, d3, d4, d5]; try rfl) rfl ?_
  exact ⟨rfl, HB2.out.trans (by have := HB2.out.size; go_grown; all_goals omega)⟩
set_option maxRecDepth 100000 in
set_option maxHeartbeats 4000000 in
theorem of_some {B : Nat} (n : Int) (l : List Rl) (a : Option Addr) (cap : Nat) (f : ByteArray) (m h p b : ByteArray) (hs : List Hd) (a0 : Option Addr) (cap0 : Nat) (W : World) (ht : TabV W B l a cap f) (hq : ReqV W B m h p b hs a0 cap0) (hB : B ≤ W.heap.size) (hn : hs.length ≤ 1000000) (hps : ∀ r ∈ l, r.preds.length ≤ 1000000000) (x0 x1 x2 : Int) (sh : Bool) (k : Nat) (hk0 : k < l.length) (hr : lookR m h p hs l = k) (x : Ac) (hx : (if sh = true then ⟨2, k, l[k].target, 0, 0, ByteArray.empty⟩ else troubleR l[k] k x0 x1 x2) = x) :
    Calls Try.prog 68 #[.agg #[.int .i64 n, .slice a l.length cap, .string f], .agg #[.string m, .string h, .string p, .slice a0 hs.length cap0, .string b], .agg #[.int .i64 x0, .int .i64 x1, .int .i64 x2], .bool sh] W fun e w' => e = .returned (.agg #[.int .i64 x.kind, .int .i64 x.rule, .string x.target, .int .i64 x.status, .int .i64 x.delay, .string x.mirror]) ∧ Below W.heap.size W w' := by
  have HA := hid (fun w' (hw : Below W.heap.size W w') => find_some n l a cap f m h p b hs a0 cap0 w' (ht.below (hw.mono hB)) (hq.below (hw.mono hB)) (Nat.le_trans hB hw.size) hn hps k hk0 hr)
  have HB0 : Hid (Below W.heap.size W ((((W.alloc (.cells #[.int .i64 n, .slice a l.length cap, .string f] 110)).alloc (.cells #[.string m, .string h, .string p, .slice a0 hs.length cap0, .string b] 113)).alloc (.cells #[.int .i64 x0, .int .i64 x1, .int .i64 x2] 114)).alloc (.cells #[.int .i64 0, .int .i64 0, .string ByteArray.empty, .int .i64 0, .int .i64 0, .string ByteArray.empty] 118))) := by show Below _ _ _; go_grown
  have HK2 := hid ((Blk.new' ((W.alloc (.cells #[.int .i64 n, .slice a l.length cap, .string f] 110)).alloc (.cells #[.string m, .string h, .string p, .slice a0 hs.length cap0, .string b] 113)) #[.int .i64 x0, .int .i64 x1, .int .i64 x2] 114 (n := W.heap.size + 2) (by simp)).alloc (.cells #[.int .i64 0, .int .i64 0, .string ByteArray.empty, .int .i64 0, .int .i64 0, .string ByteArray.empty] 118))
  have HK3 := hid (Blk.new' (((W.alloc (.cells #[.int .i64 n, .slice a l.length cap, .string f] 110)).alloc (.cells #[.string m, .string h, .string p, .slice a0 hs.length cap0, .string b] 113)).alloc (.cells #[.int .i64 x0, .int .i64 x1, .int .i64 x2] 114)) #[.int .i64 0, .int .i64 0, .string ByteArray.empty, .int .i64 0, .int .i64 0, .string ByteArray.empty] 118 (n := W.heap.size + 3) (by simp))
  clear ht hq hps hr
  generalize l[k] = y at HA hx
  cases sh
  · rw [if_neg (by simp)] at hx
    have HT := hid (fun w => trouble_any y k x0 x1 x2 x w hx)
    clear hx
    go_enter Try.func68, Try.ntmps68
    go_wp2_with fail
    refine (HA.out _ HB0.out).mono ?_
    rintro e w1 ⟨rfl, hb1⟩
    have HB1 := hid (HB0.out.trans (hb1.mono HB0.out.size))
    have HQ1 := hid hb1
    have q0 : w1.cell? ⟨W.heap.size + 2, 0, none⟩ = some (.int .i64 x0) := (HK2.out.later hb1).cell 0
    have q1 : w1.cell? ⟨W.heap.size + 2, 1, none⟩ = some (.int .i64 x1) := (HK2.out.later hb1).cell 1
    have q2 : w1.cell? ⟨W.heap.size + 2, 2, none⟩ = some (.int .i64 x2) := (HK2.out.later hb1).cell 2
    have hlq := (HK2.out.later hb1).lt
    clear hb1 HA
    go_wp2_with fail
    refine (HT.out _).mono ?_
    rintro e w2 ⟨rfl, hb2⟩
    have hbw : Below w1.heap.size w1 w2 := Below.trans (by go_grown) (hb2.mono (by simp))
    have HQ2 := hid (HQ1.out.trans (hbw.mono HQ1.out.size))
    have HB2 := hid (HB0.out.trans (HQ2.out.mono HB0.out.size))
    have hk3 := HK3.out.later HQ2.out
    have d0 : w2.cell? ⟨W.heap.size + 3, 0, none⟩ = some (.int .i64 0) := hk3.cell 0
    have df0 := hk3.free 0
    have d1 : w2.cell? ⟨W.heap.size + 3, 1, none⟩ = some (.int .i64 0) := hk3.cell 1
    have df1 := hk3.free 1
    have d2 : w2.cell? ⟨W.heap.size + 3, 2, none⟩ = some (.string ByteArray.empty) := hk3.cell 2
    have df2 := hk3.free 2
    have d3 : w2.cell? ⟨W.heap.size + 3, 3, none⟩ = some (.int .i64 0) := hk3.cell 3
    have df3 := hk3.free 3
    have d4 : w2.cell? ⟨W.heap.size + 3, 4, none⟩ = some (.int .i64 0) := hk3.cell 4
    have df4 := hk3.free 4
    have d5 : w2.cell? ⟨W.heap.size + 3, 5, none⟩ = some (.string ByteArray.empty) := hk3.cell 5
    have df5 := hk3.free 5
    have hlt := hk3.lt
    clear hb2 hbw hk3 q0 q1 q2 hlq
    go_wp2_with fail
    refine bodyPost_ret (by simp [results, Try.results68, go_sem, d0, d1, d2, d3, d4, d5]; try rfl) rfl ?_
    exact ⟨rfl, HB2.out.trans (by have := HB2.out.size; go_grown; all_goals omega)⟩
  · rw [if_pos rfl] at hx
    subst hx
    have HP := hid (fun w => pass_any y k w)
    go_enter Try.func68, Try.ntmps68
    go_wp2_with fail
    refine (HA.out _ HB0.out).mono ?_
    rintro e w1 ⟨rfl, hb1⟩
    have HB1 := hid (HB0.out.trans (hb1.mono HB0.out.size))
    have HQ1 := hid hb1
    clear hb1 HA
    go_wp2_with fail
    refine (HP.out _).mono ?_
    rintro e w2 ⟨rfl, hb2⟩
    have hbw : Below w1.heap.size w1 w2 := Below.trans (by go_grown) (hb2.mono (by simp))
    have HQ2 := hid (HQ1.out.trans (hbw.mono HQ1.out.size))
    have HB2 := hid (HB0.out.trans (HQ2.out.mono HB0.out.size))
    have hk3 := HK3.out.later HQ2.out
    have d0 : w2.cell? ⟨W.heap.size + 3, 0, none⟩ = some (.int .i64 0) := hk3.cell 0
    have df0 := hk3.free 0
    have d1 : w2.cell? ⟨W.heap.size + 3, 1, none⟩ = some (.int .i64 0) := hk3.cell 1
    have df1 := hk3.free 1
    have d2 : w2.cell? ⟨W.heap.size + 3, 2, none⟩ = some (.string ByteArray.empty) := hk3.cell 2
    have df2 := hk3.free 2
    have d3 : w2.cell? ⟨W.heap.size + 3, 3, none⟩ = some (.int .i64 0) := hk3.cell 3
    have df3 := hk3.free 3
    have d4 : w2.cell? ⟨W.heap.size + 3, 4, none⟩ = some (.int .i64 0) := hk3.cell 4
    have df4 := hk3.free 4
    have d5 : w2.cell? ⟨W.heap.size + 3, 5, none⟩ = some (.string ByteArray.empty) := hk3.cell 5
    have df5 := hk3.free 5
    have hlt := hk3.lt
    clear hb2 hbw hk3
    go_wp2_with fail
    refine bodyPost_ret (by simp [results, Try.results68, go_sem, d0, d1, d2, d3, d4, d5]; try rfl) rfl ?_
    exact ⟨rfl, HB2.out.trans (by have := HB2.out.size; go_grown; all_goals omega)⟩
theorem of_any {B : Nat} (n : Int) (l : List Rl) (a : Option Addr) (cap : Nat) (f : ByteArray) (m h p b : ByteArray) (hs : List Hd) (a0 : Option Addr) (cap0 : Nat) (W : World) (ht : TabV W B l a cap f) (hq : ReqV W B m h p b hs a0 cap0) (hB : B ≤ W.heap.size) (hn : hs.length ≤ 1000000) (hps : ∀ r ∈ l, r.preds.length ≤ 1000000000) (x0 x1 x2 : Int) (sh : Bool) (x : Ac) (hx : ofR m h p hs l x0 x1 x2 sh = x) :
    Calls Try.prog 68 #[.agg #[.int .i64 n, .slice a l.length cap, .string f], .agg #[.string m, .string h, .string p, .slice a0 hs.length cap0, .string b], .agg #[.int .i64 x0, .int .i64 x1, .int .i64 x2], .bool sh] W fun e w' => e = .returned (.agg #[.int .i64 x.kind, .int .i64 x.rule, .string x.target, .int .i64 x.status, .int .i64 x.delay, .string x.mirror]) ∧ Below W.heap.size W w' := by
  unfold ofR at hx
  by_cases h0 : ix m h p hs l < l.length
  · rw [dif_pos h0] at hx
    exact of_some n l a cap f m h p b hs a0 cap0 W ht hq hB hn hps x0 x1 x2 sh _ h0 (if_pos h0) x hx
  · rw [dif_neg h0] at hx
    subst hx
    exact of_none n l a cap f m h p b hs a0 cap0 W ht hq hB hn hps x0 x1 x2 sh (if_neg h0)
/-- Whether it is sampled. -/
def sampR (m h p : ByteArray) (hs : List Hd) (l : List Rl) (x0 : Int) : Bool := if hx : ix m h p hs l < l.length then firesR x0 l[ix m h p hs l].sample else false
set_option maxRecDepth 100000 in
set_option maxHeartbeats 4000000 in
theorem samp_any {B : Nat} (n : Int) (l : List Rl) (a : Option Addr) (cap : Nat) (f : ByteArray) (m h p b : ByteArray) (hs : List Hd) (a0 : Option Addr) (cap0 : Nat) (W : World) (ht : TabV W B l a cap f) (hq : ReqV W B m h p b hs a0 cap0) (hB : B ≤ W.heap.size) (hn : hs.length ≤ 1000000) (hps : ∀ r ∈ l, r.preds.length ≤ 1000000000) (x0 : Int) (q : Bool) (hx : sampR m h p hs l x0 = q) :
    Calls Try.prog 104 #[.agg #[.int .i64 n, .slice a l.length cap, .string f], .agg #[.string m, .string h, .string p, .slice a0 hs.length cap0, .string b], .int .i64 x0] W fun e w' => e = .returned (.bool q) ∧ Below W.heap.size W w' := by
  have HB0 : Hid (Below W.heap.size W ((W.alloc (.cells #[.int .i64 n, .slice a l.length cap, .string f] 110)).alloc (.cells #[.string m, .string h, .string p, .slice a0 hs.length cap0, .string b] 113))) := by show Below _ _ _; go_grown
  unfold sampR at hx
  by_cases h0 : ix m h p hs l < l.length
  · rw [dif_pos h0] at hx
    have HA := hid (fun w' (hw : Below W.heap.size W w') => find_some n l a cap f m h p b hs a0 cap0 w' (ht.below (hw.mono hB)) (hq.below (hw.mono hB)) (Nat.le_trans hB hw.size) hn hps _ h0 (if_pos h0))
    have HF := hid (fun w => fires_any x0 l[ix m h p hs l].sample q w hx)
    clear ht hq hps hx
    generalize l[ix m h p hs l] = y at HA HF
    generalize ix m h p hs l = k at HA
    go_enter Try.func104, Try.ntmps104
    go_wp2_with fail
    refine (HA.out _ HB0.out).mono ?_
    rintro e w1 ⟨rfl, hb1⟩
    have HB1 := hid (HB0.out.trans (hb1.mono HB0.out.size))
    clear hb1 HA
    go_wp2_with fail
    refine (HF.out _).mono ?_
    rintro e w' ⟨rfl, rfl⟩
    go_wp2_with fail
    go_ret
    exact ⟨rfl, HB1.out.trans (by have := HB1.out.size; go_grown; all_goals omega)⟩
  · rw [dif_neg h0] at hx
    subst hx
    have HA := hid (fun w' (hw : Below W.heap.size W w') => find_none n l a cap f m h p b hs a0 cap0 w' (ht.below (hw.mono hB)) (hq.below (hw.mono hB)) (Nat.le_trans hB hw.size) hn hps (if_neg h0))
    clear ht hq hps
    go_enter Try.func104, Try.ntmps104
    go_wp2_with fail
    refine (HA.out _ HB0.out).mono ?_
    rintro e w1 ⟨rfl, hb1⟩
    have HB1 := hid (HB0.out.trans (hb1.mono HB0.out.size))
    clear hb1 HA
    go_wp2_with fail
    go_ret
    exact ⟨rfl, HB1.out.trans (by have := HB1.out.size; go_grown; all_goals omega)⟩
end C16
end Go.Proofs.Ythmopkaecbebpaa
