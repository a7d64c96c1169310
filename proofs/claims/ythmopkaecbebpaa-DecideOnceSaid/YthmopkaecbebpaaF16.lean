/- Walks of layer 16 (decide): the rule that hits, an abort, a pass; no condition. -/
import Derived.Test.YthmopkaecbebpaaE16
import Derived.Deep.RegionHeld3
namespace Go.Peri
/-- What is done. -/
structure Ac where
  kind : Int
  rule : Int
  target : ByteArray
  status : Int
  delay : Int
  mirror : ByteArray
end Go.Peri
namespace Go.Proofs.Ythmopkaecbebpaa
open Go.RowKit Go.Peri
namespace C16
@[reducible] def acV (x : Ac) : Value := .agg #[.int .i64 x.kind, .int .i64 x.rule, .string x.target, .int .i64 x.status, .int .i64 x.delay, .string x.mirror]
set_option maxRecDepth 100000 in
set_option maxHeartbeats 2000000 in
theorem find_none {B : Nat} (n : Int) (l : List Rl) (a : Option Addr) (cap : Nat) (f : ByteArray) (m h p b : ByteArray) (hs : List Hd) (a0 : Option Addr) (cap0 : Nat) (W : World) (ht : TabV W B l a cap f) (hq : ReqV W B m h p b hs a0 cap0) (hB : B ≤ W.heap.size) (hn : hs.length ≤ 1000000) (hps : ∀ r ∈ l, r.preds.length ≤ 1000000000) (hr : lookR m h p hs l = -1) :
    Calls Try.prog 105 #[.agg #[.int .i64 n, .slice a l.length cap, .string f], .agg #[.string m, .string h, .string p, .slice a0 hs.length cap0, .string b]] W fun e w' => e = .returned (.tuple #[.agg #[.int .i64 0, .slice none 0 0, .string ByteArray.empty, .int .i64 0, .int .i64 0, .int .i64 0, .int .i64 0, .int .i64 0, .string ByteArray.empty, .int .i64 0, .int .i64 0], .bool false]) ∧ Below W.heap.size W w' := by
  have HA := hid (fun w' (hw : Below W.heap.size W w') => look_any n l a cap f m h p b hs a0 cap0 (-1) w' (ht.below (hw.mono hB)) (hq.below (hw.mono hB)) (Nat.le_trans hB hw.size) hn hps hr)
  have HB0 : Hid (Below W.heap.size W (((W.alloc (.cells #[.int .i64 n, .slice a l.length cap, .string f] 110)).alloc (.cells #[.string m, .string h, .string p, .slice a0 hs.length cap0, .string b] 113)).alloc (.cells #[.int .i64 0, .slice none 0 0, .string ByteArray.empty, .int .i64 0, .int .i64 0, .int .i64 0, .int .i64 0, .int .i64 0, .string ByteArray.empty, .int .i64 0, .int .i64 0] 192))) := by show Below _ _ _; go_grown
  have HK := hid (Blk.new' ((W.alloc (.cells #[.int .i64 n, .slice a l.length cap, .string f] 110)).alloc (.cells #[.string m, .string h, .string p, .slice a0 hs.length cap0, .string b] 113)) #[.int .i64 0, .slice none 0 0, .string ByteArray.empty, .int .i64 0, .int .i64 0, .int .i64 0, .int .i64 0, .int .i64 0, .string ByteArray.empty, .int .i64 0, .int .i64 0] 192 (n := W.heap.size + 2) (by simp))
  clear ht hq hps hr
  go_enter Try.func105, Try.ntmps105
  go_wp2_with fail
  refine (HA.out _ HB0.out).mono ?_
  rintro e w1 ⟨rfl, hb1⟩
  have hk := HK.out.later hb1
  have HB1 := hid (HB0.out.trans (hb1.mono HB0.out.size))
  have d0 : w1.cell? ⟨W.heap.size + 2, 0, none⟩ = some (.int .i64 0) := hk.cell 0
  have f0 := hk.free 0
  have d1 : w1.cell? ⟨W.heap.size + 2, 1, none⟩ = some (.slice none 0 0) := hk.cell 1
  have f1 := hk.free 1
  have d2 : w1.cell? ⟨W.heap.size + 2, 2, none⟩ = some (.string ByteArray.empty) := hk.cell 2
  have f2 := hk.free 2
  have d3 : w1.cell? ⟨W.heap.size + 2, 3, none⟩ = some (.int .i64 0) := hk.cell 3
  have f3 := hk.free 3
  have d4 : w1.cell? ⟨W.heap.size + 2, 4, none⟩ = some (.int .i64 0) := hk.cell 4
  have f4 := hk.free 4
  have d5 : w1.cell? ⟨W.heap.size + 2, 5, none⟩ = some (.int .i64 0) := hk.cell 5
  have f5 := hk.free 5
  have d6 : w1.cell? ⟨W.heap.size + 2, 6, none⟩ = some (.int .i64 0) := hk.cell 6
  have f6 := hk.free 6
  have d7 : w1.cell? ⟨W.heap.size + 2, 7, none⟩ = some (.int .i64 0) := hk.cell 7
  have f7 := hk.free 7
  have d8 : w1.cell? ⟨W.heap.size + 2, 8, none⟩ = some (.string ByteArray.empty) := hk.cell 8
  have f8 := hk.free 8
  have d9 : w1.cell? ⟨W.heap.size + 2, 9, none⟩ = some (.int .i64 0) := hk.cell 9
  have f9 := hk.free 9
  have d10 : w1.cell? ⟨W.heap.size + 2, 10, none⟩ = some (.int .i64 0) := hk.cell 10
  have f10 := hk.free 10
  have hlt := hk.lt
  clear hb1 hk HA
  go_wp2_with fail
  refine bodyPost_ret (by simp [results, Try.results105, go_sem, d0, d1, d2, d3, d4, d5, d6, d7, d8, d9, d10]; try rfl) rfl ?_
  exact ⟨rfl, HB1.out.trans (by have := HB1.out.size; go_grown; all_goals omega)⟩
set_option maxRecDepth 100000 in
set_option maxHeartbeats 2000000 in
theorem find_some {B : Nat} (n : Int) (l : List Rl) (a : Option Addr) (cap : Nat) (f : ByteArray) (m h p b : ByteArray) (hs : List Hd) (a0 : Option Addr) (cap0 : Nat) (W : World) (ht : TabV W B l a cap f) (hq : ReqV W B m h p b hs a0 cap0) (hB : B ≤ W.heap.size) (hn : hs.length ≤ 1000000) (hps : ∀ r ∈ l, r.preds.length ≤ 1000000000) (k : Nat) (hk0 : k < l.length) (hr : lookR m h p hs l = k) :
    Calls Try.prog 105 #[.agg #[.int .i64 n, .slice a l.length cap, .string f], .agg #[.string m, .string h, .string p, .slice a0 hs.length cap0, .string b]] W fun e w' => e = .returned (.tuple #[.agg #[.int .i64 l[k].rank, .slice l[k].pa l[k].preds.length l[k].pcap, .string l[k].target, .int .i64 l[k].ap, .int .i64 l[k].as_, .int .i64 l[k].dp, .int .i64 l[k].dt, .int .i64 l[k].mp, .string l[k].mirror, .int .i64 l[k].sample, .int .i64 k], .bool true]) ∧ Below W.heap.size W w' := by
  have HA := hid (fun w' (hw : Below W.heap.size W w') => look_any n l a cap f m h p b hs a0 cap0 k w' (ht.below (hw.mono hB)) (hq.below (hw.mono hB)) (Nat.le_trans hB hw.size) hn hps hr)
  have HB0 : Hid (Below W.heap.size W (((W.alloc (.cells #[.int .i64 n, .slice a l.length cap, .string f] 110)).alloc (.cells #[.string m, .string h, .string p, .slice a0 hs.length cap0, .string b] 113)).alloc (.cells #[.int .i64 0, .slice none 0 0, .string ByteArray.empty, .int .i64 0, .int .i64 0, .int .i64 0, .int .i64 0, .int .i64 0, .string ByteArray.empty, .int .i64 0, .int .i64 0] 192))) := by show Below _ _ _; go_grown
  have HK := hid (Blk.new' ((W.alloc (.cells #[.int .i64 n, .slice a l.length cap, .string f] 110)).alloc (.cells #[.string m, .string h, .string p, .slice a0 hs.length cap0, .string b] 113)) #[.int .i64 0, .slice none 0 0, .string ByteArray.empty, .int .i64 0, .int .i64 0, .int .i64 0, .int .i64 0, .int .i64 0, .string ByteArray.empty, .int .i64 0, .int .i64 0] 192 (n := W.heap.size + 2) (by simp))
  have HT := hid (((Blk.new W #[.int .i64 n, .slice a l.length cap, .string f] 110).alloc (.cells #[.string m, .string h, .string p, .slice a0 hs.length cap0, .string b] 113)).alloc (.cells #[.int .i64 0, .slice none 0 0, .string ByteArray.empty, .int .i64 0, .int .i64 0, .int .i64 0, .int .i64 0, .int .i64 0, .string ByteArray.empty, .int .i64 0, .int .i64 0] 192))
  obtain ⟨⟨a9, cap9, e9, hlc, hcm, _, hcell⟩, hlen, _, _⟩ := ht
  cases e9
  obtain ⟨bb, off, rfl, hpb, hc⟩ := hcell.resolve_left (by intro e; rw [e] at hk0; simp at hk0)
  have hbl0 : bb < W.heap.size := Nat.lt_of_lt_of_le hpb hB
  have HCC := hid (fun w' (hw : Below W.heap.size W w') => Rl.cells (fun j u hu => (hw.cell (p := ⟨bb, off + k * 10 + j, none⟩) hbl0).trans (hc k hk0 j u hu)))
  clear hcell hc hq hps hr
  generalize l[k] = y at HCC
  go_enter Try.func105, Try.ntmps105
  go_wp2_with fail
  refine (HA.out _ HB0.out).mono ?_
  rintro e w1 ⟨rfl, hb1⟩
  have hk := HK.out.later hb1
  have HB1 := hid (HB0.out.trans (hb1.mono HB0.out.size))
  obtain ⟨c0, c1, c2, c3, c4, c5, c6, c7, c8, c9⟩ := HCC.out w1 HB1.out
  have hbl : bb < w1.heap.size := Nat.lt_of_lt_of_le hbl0 HB1.out.size
  have t1 : w1.cell? ⟨W.heap.size, 1, none⟩ = some (.slice (some ⟨bb, off, none⟩) l.length cap) := (HT.out.later hb1).cell 1
  have d0 : w1.cell? ⟨W.heap.size + 2, 0, none⟩ = some (.int .i64 0) := hk.cell 0
  have f0 := hk.free 0
  have d1 : w1.cell? ⟨W.heap.size + 2, 1, none⟩ = some (.slice none 0 0) := hk.cell 1
  have f1 := hk.free 1
  have d2 : w1.cell? ⟨W.heap.size + 2, 2, none⟩ = some (.string ByteArray.empty) := hk.cell 2
  have f2 := hk.free 2
  have d3 : w1.cell? ⟨W.heap.size + 2, 3, none⟩ = some (.int .i64 0) := hk.cell 3
  have f3 := hk.free 3
  have d4 : w1.cell? ⟨W.heap.size + 2, 4, none⟩ = some (.int .i64 0) := hk.cell 4
  have f4 := hk.free 4
  have d5 : w1.cell? ⟨W.heap.size + 2, 5, none⟩ = some (.int .i64 0) := hk.cell 5
  have f5 := hk.free 5
  have d6 : w1.cell? ⟨W.heap.size + 2, 6, none⟩ = some (.int .i64 0) := hk.cell 6
  have f6 := hk.free 6
  have d7 : w1.cell? ⟨W.heap.size + 2, 7, none⟩ = some (.int .i64 0) := hk.cell 7
  have f7 := hk.free 7
  have d8 : w1.cell? ⟨W.heap.size + 2, 8, none⟩ = some (.string ByteArray.empty) := hk.cell 8
  have f8 := hk.free 8
  have d9 : w1.cell? ⟨W.heap.size + 2, 9, none⟩ = some (.int .i64 0) := hk.cell 9
  have f9 := hk.free 9
  have d10 : w1.cell? ⟨W.heap.size + 2, 10, none⟩ = some (.int .i64 0) := hk.cell 10
  have f10 := hk.free 10
  have hlt := hk.lt
  have hlt2 := (HT.out.later hb1).lt
  clear hb1 hk HA HCC
  go_wp2_with fail
  refine bodyPost_ret (by simp [results, Try.results105, go_sem, d0, d1, d2, d3, d4, d5, d6, d7, d8, d9, d10]; try rfl) rfl ?_
  exact ⟨rfl, HB1.out.trans (by have := HB1.out.size; go_grown; all_goals omega)⟩
set_option maxRecDepth 100000 in
theorem pass_any (r : Rl) (k : Int) (W : World) :
    Calls Try.prog 106 #[.agg #[.int .i64 r.rank, .slice r.pa r.preds.length r.pcap, .string r.target, .int .i64 r.ap, .int .i64 r.as_, .int .i64 r.dp, .int .i64 r.dt, .int .i64 r.mp, .string r.mirror, .int .i64 r.sample, .int .i64 k]] W fun e w' => e = .returned (.agg #[.int .i64 2, .int .i64 k, .string r.target, .int .i64 0, .int .i64 0, .string ByteArray.empty]) ∧ Below W.heap.size W w' := by
  go_enter Try.func106, Try.ntmps106
  go_wp2_with fail
  refine bodyPost_ret (by simp [results, Try.results106, go_sem]; try rfl) rfl ?_
  exact ⟨rfl, by go_grown⟩
set_option maxRecDepth 100000 in
set_option maxHeartbeats 2000000 in
theorem abort_any (r : Rl) (k draw : Int) (q : Bool) (W : World) (hq : firesR draw r.ap = q) :
    Calls Try.prog 135 #[.agg #[.int .i64 r.rank, .slice r.pa r.preds.length r.pcap, .string r.target, .int .i64 r.ap, .int .i64 r.as_, .int .i64 r.dp, .int .i64 r.dt, .int .i64 r.mp, .string r.mirror, .int .i64 r.sample, .int .i64 k], .int .i64 draw] W fun e w' => e = .returned (.tuple #[.agg #[.int .i64 1, .int .i64 k, .string r.target, .int .i64 r.as_, .int .i64 0, .string ByteArray.empty], .bool q]) ∧ Below W.heap.size W w' := by
  have HF := hid (fun w => fires_any draw r.ap q w hq)
  clear hq
  go_enter Try.func135, Try.ntmps135
  go_wp2_with fail
  go_region_held3 (fun w' => w'.cell? ⟨W.heap.size, 10, none⟩ = some (.int .i64 k) ∧ w'.cell? ⟨W.heap.size, 2, none⟩ = some (.string r.target) ∧ w'.cell? ⟨W.heap.size, 4, none⟩ = some (.int .i64 r.as_) ∧ w'.cell? ⟨W.heap.size, 3, none⟩ = some (.int .i64 r.ap))
    (go_keep)
    ((go_at_call 133; refine (HF.out _).mono ?_; rintro e w' ⟨rfl, rfl⟩))
  all_goals
    go_wp2_with fail
    refine bodyPost_ret (by simp [results, Try.results135, go_sem]; try rfl) rfl ?_
    exact ⟨rfl, by go_grown⟩
end C16
end Go.Proofs.Ythmopkaecbebpaa
