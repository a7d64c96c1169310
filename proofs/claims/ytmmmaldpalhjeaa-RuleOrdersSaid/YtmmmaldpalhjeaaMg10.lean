/- Walks of layer 12 (rule): two rules that differ in one of the first fields; no condition. Walks of layer 12 (rule): two rules that differ in one of the middle fields; no condition. Walks of layer 12 (rule): two rules that differ in one of the last fields, or are alike; no condition. Walks of layer 12 (rule): two rules alike; no condition. Walks of layer 12 (rule): lists of rules alike; no condition. -/
import Derived.Test.YtmmmaldpalhjeaaMg05
import Derived.Deep.RegionHeld3
namespace Go.Proofs.Ytmmmaldpalhjeaa
open Go.RowKit Go.Peri
namespace C12
set_option maxRecDepth 100000 in
set_option maxHeartbeats 2000000 in
theorem one_0 (a b : Rl) (W : World) (g0 : (a.rank == b.rank) = false) : Calls Try.prog 56 #[.agg #[.int .i64 a.rank, .slice a.pa a.preds.length a.pcap, .string a.target, .int .i64 a.ap, .int .i64 a.as_, .int .i64 a.dp, .int .i64 a.dt, .int .i64 a.mp, .string a.mirror, .int .i64 a.sample], .agg #[.int .i64 b.rank, .slice b.pa b.preds.length b.pcap, .string b.target, .int .i64 b.ap, .int .i64 b.as_, .int .i64 b.dp, .int .i64 b.dt, .int .i64 b.mp, .string b.mirror, .int .i64 b.sample]] W fun e w' => e = .returned (.bool false) ∧ Below W.heap.size W w' := by
  have HB1 : Hid (Below W.heap.size W ((W.alloc (.cells #[.int .i64 a.rank, .slice a.pa a.preds.length a.pcap, .string a.target, .int .i64 a.ap, .int .i64 a.as_, .int .i64 a.dp, .int .i64 a.dt, .int .i64 a.mp, .string a.mirror, .int .i64 a.sample] 60)).alloc (.cells #[.int .i64 b.rank, .slice b.pa b.preds.length b.pcap, .string b.target, .int .i64 b.ap, .int .i64 b.as_, .int .i64 b.dp, .int .i64 b.dt, .int .i64 b.mp, .string b.mirror, .int .i64 b.sample] 60))) := by show Below _ _ _; go_grown
  go_enter Try.func56, Try.ntmps56
  go_wp2_with fail
  go_ret
  exact ⟨rfl, HB1.out⟩
set_option maxRecDepth 100000 in
set_option maxHeartbeats 2000000 in
theorem one_1 (a b : Rl) (W : World) (HP : Hid (∀ w', Below W.heap.size W w' → Calls Try.prog 111 #[.slice a.pa a.preds.length a.pcap, .slice b.pa b.preds.length b.pcap] w' fun e w'' => e = .returned (.bool false) ∧ Below w'.heap.size w' w'')) (g0 : (a.rank == b.rank) = true) : Calls Try.prog 56 #[.agg #[.int .i64 a.rank, .slice a.pa a.preds.length a.pcap, .string a.target, .int .i64 a.ap, .int .i64 a.as_, .int .i64 a.dp, .int .i64 a.dt, .int .i64 a.mp, .string a.mirror, .int .i64 a.sample], .agg #[.int .i64 b.rank, .slice b.pa b.preds.length b.pcap, .string b.target, .int .i64 b.ap, .int .i64 b.as_, .int .i64 b.dp, .int .i64 b.dt, .int .i64 b.mp, .string b.mirror, .int .i64 b.sample]] W fun e w' => e = .returned (.bool false) ∧ Below W.heap.size W w' := by
  have HB1 : Hid (Below W.heap.size W ((W.alloc (.cells #[.int .i64 a.rank, .slice a.pa a.preds.length a.pcap, .string a.target, .int .i64 a.ap, .int .i64 a.as_, .int .i64 a.dp, .int .i64 a.dt, .int .i64 a.mp, .string a.mirror, .int .i64 a.sample] 60)).alloc (.cells #[.int .i64 b.rank, .slice b.pa b.preds.length b.pcap, .string b.target, .int .i64 b.ap, .int .i64 b.as_, .int .i64 b.dp, .int .i64 b.dt, .int .i64 b.mp, .string b.mirror, .int .i64 b.sample] 60))) := by show Below _ _ _; go_grown
  have HKA : Hid (Blk ((W.alloc (.cells #[.int .i64 a.rank, .slice a.pa a.preds.length a.pcap, .string a.target, .int .i64 a.ap, .int .i64 a.as_, .int .i64 a.dp, .int .i64 a.dt, .int .i64 a.mp, .string a.mirror, .int .i64 a.sample] 60)).alloc (.cells #[.int .i64 b.rank, .slice b.pa b.preds.length b.pcap, .string b.target, .int .i64 b.ap, .int .i64 b.as_, .int .i64 b.dp, .int .i64 b.dt, .int .i64 b.mp, .string b.mirror, .int .i64 b.sample] 60)) W.heap.size #[.int .i64 a.rank, .slice a.pa a.preds.length a.pcap, .string a.target, .int .i64 a.ap, .int .i64 a.as_, .int .i64 a.dp, .int .i64 a.dt, .int .i64 a.mp, .string a.mirror, .int .i64 a.sample] 60) := hid ((Blk.new _ _ _).alloc _)
  have HKB : Hid (Blk ((W.alloc (.cells #[.int .i64 a.rank, .slice a.pa a.preds.length a.pcap, .string a.target, .int .i64 a.ap, .int .i64 a.as_, .int .i64 a.dp, .int .i64 a.dt, .int .i64 a.mp, .string a.mirror, .int .i64 a.sample] 60)).alloc (.cells #[.int .i64 b.rank, .slice b.pa b.preds.length b.pcap, .string b.target, .int .i64 b.ap, .int .i64 b.as_, .int .i64 b.dp, .int .i64 b.dt, .int .i64 b.mp, .string b.mirror, .int .i64 b.sample] 60)) (W.heap.size + 1) #[.int .i64 b.rank, .slice b.pa b.preds.length b.pcap, .string b.target, .int .i64 b.ap, .int .i64 b.as_, .int .i64 b.dp, .int .i64 b.dt, .int .i64 b.mp, .string b.mirror, .int .i64 b.sample] 60) := hid (Blk.new' _ _ _ (by simp))
  go_enter Try.func56, Try.ntmps56
  go_wp2_with fail
  refine (HP.out _ HB1.out).mono ?_
  rintro e w2 ⟨rfl, hb2⟩
  have HB2 := hid (HB1.out.trans (hb2.mono HB1.out.size))
  have hka := HKA.out.below hb2 HKA.out.lt
  have hkb := HKB.out.below hb2 HKB.out.lt
  have hla := hka.lt
  have hlb := hkb.lt
  have c0 : w2.cell? ⟨W.heap.size, 0, none⟩ = some (.int .i64 a.rank) := hka.cell 0
  have c1 : w2.cell? ⟨W.heap.size, 1, none⟩ = some (.slice a.pa a.preds.length a.pcap) := hka.cell 1
  have c2 : w2.cell? ⟨W.heap.size, 2, none⟩ = some (.string a.target) := hka.cell 2
  have c3 : w2.cell? ⟨W.heap.size, 3, none⟩ = some (.int .i64 a.ap) := hka.cell 3
  have c4 : w2.cell? ⟨W.heap.size, 4, none⟩ = some (.int .i64 a.as_) := hka.cell 4
  have c5 : w2.cell? ⟨W.heap.size, 5, none⟩ = some (.int .i64 a.dp) := hka.cell 5
  have c6 : w2.cell? ⟨W.heap.size, 6, none⟩ = some (.int .i64 a.dt) := hka.cell 6
  have c7 : w2.cell? ⟨W.heap.size, 7, none⟩ = some (.int .i64 a.mp) := hka.cell 7
  have c8 : w2.cell? ⟨W.heap.size, 8, none⟩ = some (.string a.mirror) := hka.cell 8
  have c9 : w2.cell? ⟨W.heap.size, 9, none⟩ = some (.int .i64 a.sample) := hka.cell 9
  have d0 : w2.cell? ⟨W.heap.size + 1, 0, none⟩ = some (.int .i64 b.rank) := hkb.cell 0
  have d1 : w2.cell? ⟨W.heap.size + 1, 1, none⟩ = some (.slice b.pa b.preds.length b.pcap) := hkb.cell 1
  have d2 : w2.cell? ⟨W.heap.size + 1, 2, none⟩ = some (.string b.target) := hkb.cell 2
  have d3 : w2.cell? ⟨W.heap.size + 1, 3, none⟩ = some (.int .i64 b.ap) := hkb.cell 3
  have d4 : w2.cell? ⟨W.heap.size + 1, 4, none⟩ = some (.int .i64 b.as_) := hkb.cell 4
  have d5 : w2.cell? ⟨W.heap.size + 1, 5, none⟩ = some (.int .i64 b.dp) := hkb.cell 5
  have d6 : w2.cell? ⟨W.heap.size + 1, 6, none⟩ = some (.int .i64 b.dt) := hkb.cell 6
  have d7 : w2.cell? ⟨W.heap.size + 1, 7, none⟩ = some (.int .i64 b.mp) := hkb.cell 7
  have d8 : w2.cell? ⟨W.heap.size + 1, 8, none⟩ = some (.string b.mirror) := hkb.cell 8
  have d9 : w2.cell? ⟨W.heap.size + 1, 9, none⟩ = some (.int .i64 b.sample) := hkb.cell 9
  clear hka hkb
  clear hb2
  go_wp2_with fail
  go_ret
  exact ⟨rfl, HB2.out⟩
set_option maxRecDepth 100000 in
set_option maxHeartbeats 2000000 in
theorem one_2 (a b : Rl) (W : World) (HP : Hid (∀ w', Below W.heap.size W w' → Calls Try.prog 111 #[.slice a.pa a.preds.length a.pcap, .slice b.pa b.preds.length b.pcap] w' fun e w'' => e = .returned (.bool true) ∧ Below w'.heap.size w' w'')) (g0 : (a.rank == b.rank) = true) (g2 : (a.target.toList == b.target.toList) = false) : Calls Try.prog 56 #[.agg #[.int .i64 a.rank, .slice a.pa a.preds.length a.pcap, .string a.target, .int .i64 a.ap, .int .i64 a.as_, .int .i64 a.dp, .int .i64 a.dt, .int .i64 a.mp, .string a.mirror, .int .i64 a.sample], .agg #[.int .i64 b.rank, .slice b.pa b.preds.length b.pcap, .string b.target, .int .i64 b.ap, .int .i64 b.as_, .int .i64 b.dp, .int .i64 b.dt, .int .i64 b.mp, .string b.mirror, .int .i64 b.sample]] W fun e w' => e = .returned (.bool false) ∧ Below W.heap.size W w' := by
  have HB1 : Hid (Below W.heap.size W ((W.alloc (.cells #[.int .i64 a.rank, .slice a.pa a.preds.length a.pcap, .string a.target, .int .i64 a.ap, .int .i64 a.as_, .int .i64 a.dp, .int .i64 a.dt, .int .i64 a.mp, .string a.mirror, .int .i64 a.sample] 60)).alloc (.cells #[.int .i64 b.rank, .slice b.pa b.preds.length b.pcap, .string b.target, .int .i64 b.ap, .int .i64 b.as_, .int .i64 b.dp, .int .i64 b.dt, .int .i64 b.mp, .string b.mirror, .int .i64 b.sample] 60))) := by show Below _ _ _; go_grown
  have HKA : Hid (Blk ((W.alloc (.cells #[.int .i64 a.rank, .slice a.pa a.preds.length a.pcap, .string a.target, .int .i64 a.ap, .int .i64 a.as_, .int .i64 a.dp, .int .i64 a.dt, .int .i64 a.mp, .string a.mirror, .int .i64 a.sample] 60)).alloc (.cells #[.int .i64 b.rank, .slice b.pa b.preds.length b.pcap, .string b.target, .int .i64 b.ap, .int .i64 b.as_, .int .i64 b.dp, .int .i64 b.dt, .int .i64 b.mp, .string b.mirror, .int .i64 b.sample] 60)) W.heap.size #[.int .i64 a.rank, .slice a.pa a.preds.length a.pcap, .string a.target, .int .i64 a.ap, .int .i64 a.as_, .int .i64 a.dp, .int .i64 a.dt, .int .i64 a.mp, .string a.mirror, .int .i64 a.sample] 60) := hid ((Blk.new _ _ _).alloc _)
  have HKB : Hid (Blk ((W.alloc (.cells #[.int .i64 a.rank, .slice a.pa a.preds.length a.pcap, .string a.target, .int .i64 a.ap, .int .i64 a.as_, .int .i64 a.dp, .int .i64 a.dt, .int .i64 a.mp, .string a.mirror, .int .i64 a.sample] 60)).alloc (.cells #[.int .i64 b.rank, .slice b.pa b.preds.length b.pcap, .string b.target, .int .i64 b.ap, .int .i64 b.as_, .int .i64 b.dp, .int .i64 b.dt, .int .i64 b.mp, .string b.mirror, .int .i64 b.sample] 60)) (W.heap.size + 1) #[.int .i64 b.rank, .slice b.pa b.preds.length b.pcap, .string b.target, .int .i64 b.ap, .int .i64 b.as_, .int .i64 b.dp, .int .i64 b.dt, .int .i64 b.mp, .string b.mirror, .int .i64 b.sample] 60) := hid (Blk.new' _ _ _ (by simp))
  go_enter Try.func56, Try.ntmps56
  go_wp2_with fail
  refine (HP.out _ HB1.out).mono ?_
  rintro e w2 ⟨rfl, hb2⟩
  have HB2 := hid (HB1.out.trans (hb2.mono HB1.out.size))
  have hka := HKA.out.below hb2 HKA.out.lt
  have hkb := HKB.out.below hb2 HKB.out.lt
  have hla := hka.lt
  have hlb := hkb.lt
  have c0 : w2.cell? ⟨W.heap.size, 0, none⟩ = some (.int .i64 a.rank) := hka.cell 0
  have c1 : w2.cell? ⟨W.heap.size, 1, none⟩ = some (.slice a.pa a.preds.length a.pcap) := hka.cell 1
  have c2 : w2.cell? ⟨W.heap.size, 2, none⟩ = some (.string a.target) := hka.cell 2
  have c3 : w2.cell? ⟨W.heap.size, 3, none⟩ = some (.int .i64 a.ap) := hka.cell 3
  have c4 : w2.cell? ⟨W.heap.size, 4, none⟩ = some (.int .i64 a.as_) := hka.cell 4
  have c5 : w2.cell? ⟨W.heap.size, 5, none⟩ = some (.int .i64 a.dp) := hka.cell 5
  have c6 : w2.cell? ⟨W.heap.size, 6, none⟩ = some (.int .i64 a.dt) := hka.cell 6
  have c7 : w2.cell? ⟨W.heap.size, 7, none⟩ = some (.int .i64 a.mp) := hka.cell 7
  have c8 : w2.cell? ⟨W.heap.size, 8, none⟩ = some (.string a.mirror) := hka.cell 8
  have c9 : w2.cell? ⟨W.heap.size, 9, none⟩ = some (.int .i64 a.sample) := hka.cell 9
  have d0 : w2.cell? ⟨W.heap.size + 1, 0, none⟩ = some (.int .i64 b.rank) := hkb.cell 0
  have d1 : w2.cell? ⟨W.heap.size + 1, 1, none⟩ = some (.slice b.pa b.preds.length b.pcap) := hkb.cell 1
  have d2 : w2.cell? ⟨W.heap.size + 1, 2, none⟩ = some (.string b.target) := hkb.cell 2
  have d3 : w2.cell? ⟨W.heap.size + 1, 3, none⟩ = some (.int .i64 b.ap) := hkb.cell 3
  have d4 : w2.cell? ⟨W.heap.size + 1, 4, none⟩ = some (.int .i64 b.as_) := hkb.cell 4
  have d5 : w2.cell? ⟨W.heap.size + 1, 5, none⟩ = some (.int .i64 b.dp) := hkb.cell 5
  have d6 : w2.cell? ⟨W.heap.size + 1, 6, none⟩ = some (.int .i64 b.dt) := hkb.cell 6
  have d7 : w2.cell? ⟨W.heap.size + 1, 7, none⟩ = some (.int .i64 b.mp) := hkb.cell 7
  have d8 : w2.cell? ⟨W.heap.size + 1, 8, none⟩ = some (.string b.mirror) := hkb.cell 8
  have d9 : w2.cell? ⟨W.heap.size + 1, 9, none⟩ = some (.int .i64 b.sample) := hkb.cell 9
  clear hka hkb
  clear hb2
  go_wp2_with fail
  go_ret
  exact ⟨rfl, HB2.out⟩
set_option maxRecDepth 100000 in
set_option maxHeartbeats 2000000 in
theorem one_3 (a b : Rl) (W : World) (HP : Hid (∀ w', Below W.heap.size W w' → Calls Try.prog 111 #[.slice a.pa a.preds.length a.pcap, .slice b.pa b.preds.length b.pcap] w' fun e w'' => e = .returned (.bool true) ∧ Below w'.heap.size w' w'')) (g0 : (a.rank == b.rank) = true) (g2 : (a.target.toList == b.target.toList) = true) (g3 : (a.ap == b.ap) = false) : Calls Try.prog 56 #[.agg #[.int .i64 a.rank, .slice a.pa a.preds.length a.pcap, .string a.target, .int .i64 a.ap, .int .i64 a.as_, .int .i64 a.dp, .int .i64 a.dt, .int .i64 a.mp, .string a.mirror, .int .i64 a.sample], .agg #[.int .i64 b.rank, .slice b.pa b.preds.length b.pcap, .string b.target, .int .i64 b.ap, .int .i64 b.as_, .int .i64 b.dp, .int .i64 b.dt, .int .i64 b.mp, .string b.mirror, .int .i64 b.sample]] W fun e w' => e = .returned (.bool false) ∧ Below W.heap.size W w' := by
  have HB1 : Hid (Below W.heap.size W ((W.alloc (.cells #[.int .i64 a.rank, .slice a.pa a.preds.length a.pcap, .string a.target, .int .i64 a.ap, .int .i64 a.as_, .int .i64 a.dp, .int .i64 a.dt, .int .i64 a.mp, .string a.mirror, .int .i64 a.sample] 60)).alloc (.cells #[.int .i64 b.rank, .slice b.pa b.preds.length b.pcap, .string b.target, .int .i64 b.ap, .int .i64 b.as_, .int .i64 b.dp, .int .i64 b.dt, .int .i64 b.mp, .string b.mirror, .int .i64 b.sample] 60))) := by show Below _ _ _; go_grown
  have HKA : Hid (Blk ((W.alloc (.cells #[.int .i64 a.rank, .slice a.pa a.preds.length a.pcap, .string a.target, .int .i64 a.ap, .int .i64 a.as_, .int .i64 a.dp, .int .i64 a.dt, .int .i64 a.mp, .string a.mirror, .int .i64 a.sample] 60)).alloc (.cells #[.int .i64 b.rank, .slice b.pa b.preds.length b.pcap, .string b.target, .int .i64 b.ap, .int .i64 b.as_, .int .i64 b.dp, .int .i64 b.dt, .int .i64 b.mp, .string b.mirror, .int .i64 b.sample] 60)) W.heap.size #[.int .i64 a.rank, .slice a.pa a.preds.length a.pcap, .string a.target, .int .i64 a.ap, .int .i64 a.as_, .int .i64 a.dp, .int .i64 a.dt, .int .i64 a.mp, .string a.mirror, .int .i64 a.sample] 60) := hid ((Blk.new _ _ _).alloc _)
  have HKB : Hid (Blk ((W.alloc (.cells #[.int .i64 a.rank, .slice a.pa a.preds.length a.pcap, .string a.target, .int .i64 a.ap, .int .i64 a.as_, .int .i64 a.dp, .int .i64 a.dt, .int .i64 a.mp, .string a.mirror, .int .i64 a.sample] 60)).alloc (.cells #[.int .i64 b.rank, .slice b.pa b.preds.length b.pcap, .string b.target, .int .i64 b.ap, .int .i64 b.as_, .int .i64 b.dp, .int .i64 b.dt, .int .i64 b.mp, .string b.mirror, .int .i64 b.sample] 60)) (W.heap.size + 1) #[.int .i64 b.rank, .slice b.pa b.preds.length b.pcap, .string b.target, .int .i64 b.ap, .int .i64 b.as_, .int .i64 b.dp, .int .i64 b.dt, .int .i64 b.mp, .string b.mirror, .int .i64 b.sample] 60) := hid (Blk.new' _ _ _ (by simp))
  go_enter Try.func56, Try.ntmps56
  go_wp2_with fail
  refine (HP.out _ HB1.out).mono ?_
  rintro e w2 ⟨rfl, hb2⟩
  have HB2 := hid (HB1.out.trans (hb2.mono HB1.out.size))
  have hka := HKA.out.below hb2 HKA.out.lt
  have hkb := HKB.out.below hb2 HKB.out.lt
  have hla := hka.lt
  have hlb := hkb.lt
  have c0 : w2.cell? ⟨W.heap.size, 0, none⟩ = some (.int .i64 a.rank) := hka.cell 0
  have c1 : w2.cell? ⟨W.heap.size, 1, none⟩ = some (.slice a.pa a.preds.length a.pcap) := hka.cell 1
  have c2 : w2.cell? ⟨W.heap.size, 2, none⟩ = some (.string a.target) := hka.cell 2
  have c3 : w2.cell? ⟨W.heap.size, 3, none⟩ = some (.int .i64 a.ap) := hka.cell 3
  have c4 : w2.cell? ⟨W.heap.size, 4, none⟩ = some (.int .i64 a.as_) := hka.cell 4
  have c5 : w2.cell? ⟨W.heap.size, 5, none⟩ = some (.int .i64 a.dp) := hka.cell 5
  have c6 : w2.cell? ⟨W.heap.size, 6, none⟩ = some (.int .i64 a.dt) := hka.cell 6
  have c7 : w2.cell? ⟨W.heap.size, 7, none⟩ = some (.int .i64 a.mp) := hka.cell 7
  have c8 : w2.cell? ⟨W.heap.size, 8, none⟩ = some (.string a.mirror) := hka.cell 8
  have c9 : w2.cell? ⟨W.heap.size, 9, none⟩ = some (.int .i64 a.sample) := hka.cell 9
  have d0 : w2.cell? ⟨W.heap.size + 1, 0, none⟩ = some (.int .i64 b.rank) := hkb.cell 0
  have d1 : w2.cell? ⟨W.heap.size + 1, 1, none⟩ = some (.slice b.pa b.preds.length b.pcap) := hkb.cell 1
  have d2 : w2.cell? ⟨W.heap.size + 1, 2, none⟩ = some (.string b.target) := hkb.cell 2
  have d3 : w2.cell? ⟨W.heap.size + 1, 3, none⟩ = some (.int .i64 b.ap) := hkb.cell 3
  have d4 : w2.cell? ⟨W.heap.size + 1, 4, none⟩ = some (.int .i64 b.as_) := hkb.cell 4
  have d5 : w2.cell? ⟨W.heap.size + 1, 5, none⟩ = some (.int .i64 b.dp) := hkb.cell 5
  have d6 : w2.cell? ⟨W.heap.size + 1, 6, none⟩ = some (.int .i64 b.dt) := hkb.cell 6
  have d7 : w2.cell? ⟨W.heap.size + 1, 7, none⟩ = some (.int .i64 b.mp) := hkb.cell 7
  have d8 : w2.cell? ⟨W.heap.size + 1, 8, none⟩ = some (.string b.mirror) := hkb.cell 8
  have d9 : w2.cell? ⟨W.heap.size + 1, 9, none⟩ = some (.int .i64 b.sample) := hkb.cell 9
  clear hka hkb
  clear hb2
  go_wp2_with fail
  go_ret
  exact ⟨rfl, HB2.out⟩
set_option maxRecDepth 100000 in
set_option maxHeartbeats 2000000 in
theorem one_4 (a b : Rl) (W : World) (HP : Hid (∀ w', Below W.heap.size W w' → Calls Try.prog 111 #[.slice a.pa a.preds.length a.pcap, .slice b.pa b.preds.length b.pcap] w' fun e w'' => e = .returned (.bool true) ∧ Below w'.heap.size w' w'')) (g0 : (a.rank == b.rank) = true) (g2 : (a.target.toList == b.target.toList) = true) (g3 : (a.ap == b.ap) = true) (g4 : (a.as_ == b.as_) = false) : Calls Try.prog 56 #[.agg #[.int .i64 a.rank, .slice a.pa a.preds.length a.pcap, .string a.target, .int .i64 a.ap, .int .i64 a.as_, .int .i64 a.dp, .int .i64 a.dt, .int .i64 a.mp, .string a.mirror, .int .i64 a.sample], .agg #[.int .i64 b.rank, .slice b.pa b.preds.length b.pcap, .string b.target, .int .i64 b.ap, .int .i64 b.as_, .int .i64 b.dp, .int .i64 b.dt, .int .i64 b.mp, .string b.mirror, .int .i64 b.sample]] W fun e w' => e = .returned (.bool false) ∧ Below W.heap.size W w' := by
  have HB1 : Hid (Below W.heap.size W ((W.alloc (.cells #[.int .i64 a.rank, .slice a.pa a.preds.length a.pcap, .string a.target, .int .i64 a.ap, .int .i64 a.as_, .int .i64 a.dp, .int .i64 a.dt, .int .i64 a.mp, .string a.mirror, .int .i64 a.sample] 60)).alloc (.cells #[.int .i64 b.rank, .slice b.pa b.preds.length b.pcap, .string b.target, .int .i64 b.ap, .int .i64 b.as_, .int .i64 b.dp, .int .i64 b.dt, .int .i64 b.mp, .string b.mirror, .int .i64 b.sample] 60))) := by show Below _ _ _; go_grown
  have HKA : Hid (Blk ((W.alloc (.cells #[.int .i64 a.rank, .slice a.pa a.preds.length a.pcap, .string a.target, .int .i64 a.ap, .int .i64 a.as_, .int .i64 a.dp, .int .i64 a.dt, .int .i64 a.mp, .string a.mirror, .int .i64 a.sample] 60)).alloc (.cells #[.int .i64 b.rank, .slice b.pa b.preds.length b.pcap, .string b.target, .int .i64 b.ap, .int .i64 b.as_, .int .i64 b.dp, .int .i64 b.dt, .int .i64 b.mp, .string b.mirror, .int .i64 b.sample] 60)) W.heap.size #[.int .i64 a.rank, .slice a.pa a.preds.length a.pcap, .string a.target, .int .i64 a.ap, .int .i64 a.as_, .int .i64 a.dp, .int .i64 a.dt, .int .i64 a.mp, .string a.mirror, .int .i64 a.sample] 60) := hid ((Blk.new _ _ _).alloc _)
  have HKB : Hid (Blk ((W.alloc (.cells #[.int .i64 a.rank, .slice a.pa a.preds.length a.pcap, .string a.target, .int .i64 a.ap, .int .i64 a.as_, .int .i64 a.dp, .int .i64 a.dt, .int .i64 a.mp, .string a.mirror, .int .i64 a.sample] 60)).alloc (.cells #[.int .i64 b.rank, .slice b.pa b.preds.length b.pcap, .string b.target, .int .i64 b.ap, .int .i64 b.as_, .int .i64 b.dp, .int .i64 b.dt, .int .i64 b.mp, .string b.mirror, .int .i64 b.sample] 60)) (W.heap.size + 1) #[.int .i64 b.rank, .slice b.pa b.preds.length b.pcap, .string b.target, .int .i64 b.ap, .int .i64 b.as_, .int .i64 b.dp, .int .i64 b.dt, .int .i64 b.mp, .string b.mirror, .int .i64 b.sample] 60) := hid (Blk.new' _ _ _ (by simp))
  go_enter Try.func56, Try.ntmps56
  go_wp2_with fail
  refine (HP.out _ HB1.out).mono ?_
  rintro e w2 ⟨rfl, hb2⟩
  have HB2 := hid (HB1.out.trans (hb2.mono HB1.out.size))
  have hka := HKA.out.below hb2 HKA.out.lt
  have hkb := HKB.out.below hb2 HKB.out.lt
  have hla := hka.lt
  have hlb := hkb.lt
  have c0 : w2.cell? ⟨W.heap.size, 0, none⟩ = some (.int .i64 a.rank) := hka.cell 0
  have c1 : w2.cell? ⟨W.heap.size, 1, none⟩ = some (.slice a.pa a.preds.length a.pcap) := hka.cell 1
  have c2 : w2.cell? ⟨W.heap.size, 2, none⟩ = some (.string a.target) := hka.cell 2
  have c3 : w2.cell? ⟨W.heap.size, 3, none⟩ = some (.int .i64 a.ap) := hka.cell 3
  have c4 : w2.cell? ⟨W.heap.size, 4, none⟩ = some (.int .i64 a.as_) := hka.cell 4
  have c5 : w2.cell? ⟨W.heap.size, 5, none⟩ = some (.int .i64 a.dp) := hka.cell 5
  have c6 : w2.cell? ⟨W.heap.size, 6, none⟩ = some (.int .i64 a.dt) := hka.cell 6
  have c7 : w2.cell? ⟨W.heap.size, 7, none⟩ = some (.int .i64 a.mp) := hka.cell 7
  have c8 : w2.cell? ⟨W.heap.size, 8, none⟩ = some (.string a.mirror) := hka.cell 8
  have c9 : w2.cell? ⟨W.heap.size, 9, none⟩ = some (.int .i64 a.sample) := hka.cell 9
  have d0 : w2.cell? ⟨W.heap.size + 1, 0, none⟩ = some (.int .i64 b.rank) := hkb.cell 0
  have d1 : w2.cell? ⟨W.heap.size + 1, 1, none⟩ = some (.slice b.pa b.preds.length b.pcap) := hkb.cell 1
  have d2 : w2.cell? ⟨W.heap.size + 1, 2, none⟩ = some (.string b.target) := hkb.cell 2
  have d3 : w2.cell? ⟨W.heap.size + 1, 3, none⟩ = some (.int .i64 b.ap) := hkb.cell 3
  have d4 : w2.cell? ⟨W.heap.size + 1, 4, none⟩ = some (.int .i64 b.as_) := hkb.cell 4
  have d5 : w2.cell? ⟨W.heap.size + 1, 5, none⟩ = some (.int .i64 b.dp) := hkb.cell 5
  have d6 : w2.cell? ⟨W.heap.size + 1, 6, none⟩ = some (.int .i64 b.dt) := hkb.cell 6
  have d7 : w2.cell? ⟨W.heap.size + 1, 7, none⟩ = some (.int .i64 b.mp) := hkb.cell 7
  have d8 : w2.cell? ⟨W.heap.size + 1, 8, none⟩ = some (.string b.mirror) := hkb.cell 8
  have d9 : w2.cell? ⟨W.heap.size + 1, 9, none⟩ = some (.int .i64 b.sample) := hkb.cell 9
  clear hka hkb
  clear hb2
  go_wp2_with fail
  go_ret
  exact ⟨rfl, HB2.out⟩
end C12
end Go.Proofs.Ytmmmaldpalhjeaa
namespace Go.Proofs.Ytmmmaldpalhjeaa
open Go.RowKit Go.Peri
namespace C12
set_option maxRecDepth 100000 in
set_option maxHeartbeats 2000000 in
theorem one_5 (a b : Rl) (W : World) (HP : Hid (∀ w', Below W.heap.size W w' → Calls Try.prog 111 #[.slice a.pa a.preds.length a.pcap, .slice b.pa b.preds.length b.pcap] w' fun e w'' => e = .returned (.bool true) ∧ Below w'.heap.size w' w'')) (g0 : (a.rank == b.rank) = true) (g2 : (a.target.toList == b.target.toList) = true) (g3 : (a.ap == b.ap) = true) (g4 : (a.as_ == b.as_) = true) (g5 : (a.dp == b.dp) = false) : Calls Try.prog 56 #[.agg #[.int .i64 a.rank, .slice a.pa a.preds.length a.pcap, .string a.target, .int .i64 a.ap, .int .i64 a.as_, .int .i64 a.dp, .int .i64 a.dt, .int .i64 a.mp, .string a.mirror, .int .i64 a.sample], .agg #[.int .i64 b.rank, .slice b.pa b.preds.length b.pcap, .string b.target, .int .i64 b.ap, .int .i64 b.as_, .int .i64 b.dp, .int .i64 b.dt, .int .i64 b.mp, .string b.mirror, .int .i64 b.sample]] W fun e w' => e = .returned (.bool false) ∧ Below W.heap.size W w' := by
  have HB1 : Hid (Below W.heap.size W ((W.alloc (.cells #[.int .i64 a.rank, .slice a.pa a.preds.length a.pcap, .string a.target, .int .i64 a.ap, .int .i64 a.as_, .int .i64 a.dp, .int .i64 a.dt, .int .i64 a.mp, .string a.mirror, .int .i64 a.sample] 60)).alloc (.cells #[.int .i64 b.rank, .slice b.pa b.preds.length b.pcap, .string b.target, .int .i64 b.ap, .int .i64 b.as_, .int .i64 b.dp, .int .i64 b.dt, .int .i64 b.mp, .string b.mirror, .int .i64 b.sample] 60))) := by show Below _ _ _; go_grown
  have HKA : Hid (Blk ((W.alloc (.cells #[.int .i64 a.rank, .slice a.pa a.preds.length a.pcap, .string a.target, .int .i64 a.ap, .int .i64 a.as_, .int .i64 a.dp, .int .i64 a.dt, .int .i64 a.mp, .string a.mirror, .int .i64 a.sample] 60)).alloc (.cells #[.int .i64 b.rank, .slice b.pa b.preds.length b.pcap, .string b.target, .int .i64 b.ap, .int .i64 b.as_, .int .i64 b.dp, .int .i64 b.dt, .int .i64 b.mp, .string b.mirror, .int .i64 b.sample] 60)) W.heap.size #[.int .i64 a.rank, .slice a.pa a.preds.length a.pcap, .string a.target, .int .i64 a.ap, .int .i64 a.as_, .int .i64 a.dp, .int .i64 a.dt, .int .i64 a.mp, .string a.mirror, .int .i64 a.sample] 60) := hid ((Blk.new _ _ _).alloc _)
  have HKB : Hid (Blk ((W.alloc (.cells #[.int .i64 a.rank, .slice a.pa a.preds.length a.pcap, .string a.target, .int .i64 a.ap, .int .i64 a.as_, .int .i64 a.dp, .int .i64 a.dt, .int .i64 a.mp, .string a.mirror, .int .i64 a.sample] 60)).alloc (.cells #[.int .i64 b.rank, .slice b.pa b.preds.length b.pcap, .string b.target, .int .i64 b.ap, .int .i64 b.as_, .int .i64 b.dp, .int .i64 b.dt, .int .i64 b.mp, .string b.mirror, .int .i64 b.sample] 60)) (W.heap.size + 1) #[.int .i64 b.rank, .slice b.pa b.preds.length b.pcap, .string b.target, .int .i64 b.ap, .int .i64 b.as_, .int .i64 b.dp, .int .i64 b.dt, .int .i64 b.mp, .string b.mirror, .int .i64 b.sample] 60) := hid (Blk.new' _ _ _ (by simp))
  go_enter Try.func56, Try.ntmps56
  go_wp2_with fail
  refine (HP.out _ HB1.out).mono ?_
  rintro e w2 ⟨rfl, hb2⟩
  have HB2 := hid (HB1.out.trans (hb2.mono HB1.out.size))
  have hka := HKA.out.below hb2 HKA.out.lt
  have hkb := HKB.out.below hb2 HKB.out.lt
  have hla := hka.lt
  have hlb := hkb.lt
  have c0 : w2.cell? ⟨W.heap.size, 0, none⟩ = some (.int .i64 a.rank) := hka.cell 0
  have c1 : w2.cell? ⟨W.heap.size, 1, none⟩ = some (.slice a.pa a.preds.length a.pcap) := hka.cell 1
  have c2 : w2.cell? ⟨W.heap.size, 2, none⟩ = some (.string a.target) := hka.cell 2
  have c3 : w2.cell? ⟨W.heap.size, 3, none⟩ = some (.int .i64 a.ap) := hka.cell 3
  have c4 : w2.cell? ⟨W.heap.size, 4, none⟩ = some (.int .i64 a.as_) := hka.cell 4
  have c5 : w2.cell? ⟨W.heap.size, 5, none⟩ = some (.int .i64 a.dp) := hka.cell 5
  have c6 : w2.cell? ⟨W.heap.size, 6, none⟩ = some (.int .i64 a.dt) := hka.cell 6
  have c7 : w2.cell? ⟨W.heap.size, 7, none⟩ = some (.int .i64 a.mp) := hka.cell 7
  have c8 : w2.cell? ⟨W.heap.size, 8, none⟩ = some (.string a.mirror) := hka.cell 8
  have c9 : w2.cell? ⟨W.heap.size, 9, none⟩ = some (.int .i64 a.sample) := hka.cell 9
  have d0 : w2.cell? ⟨W.heap.size + 1, 0, none⟩ = some (.int .i64 b.rank) := hkb.cell 0
  have d1 : w2.cell? ⟨W.heap.size + 1, 1, none⟩ = some (.slice b.pa b.preds.length b.pcap) := hkb.cell 1
  have d2 : w2.cell? ⟨W.heap.size + 1, 2, none⟩ = some (.string b.target) := hkb.cell 2
  have d3 : w2.cell? ⟨W.heap.size + 1, 3, none⟩ = some (.int .i64 b.ap) := hkb.cell 3
  have d4 : w2.cell? ⟨W.heap.size + 1, 4, none⟩ = some (.int .i64 b.as_) := hkb.cell 4
  have d5 : w2.cell? ⟨W.heap.size + 1, 5, none⟩ = some (.int .i64 b.dp) := hkb.cell 5
  have d6 : w2.cell? ⟨W.heap.size + 1, 6, none⟩ = some (.int .i64 b.dt) := hkb.cell 6
  have d7 : w2.cell? ⟨W.heap.size + 1, 7, none⟩ = some (.int .i64 b.mp) := hkb.cell 7
  have d8 : w2.cell? ⟨W.heap.size + 1, 8, none⟩ = some (.string b.mirror) := hkb.cell 8
  have d9 : w2.cell? ⟨W.heap.size + 1, 9, none⟩ = some (.int .i64 b.sample) := hkb.cell 9
  clear hka hkb
  clear hb2
  go_wp2_with fail
  go_ret
  exact ⟨rfl, HB2.out⟩
set_option maxRecDepth 100000 in
set_option maxHeartbeats 2000000 in
theorem one_6 (a b : Rl) (W : World) (HP : Hid (∀ w', Below W.heap.size W w' → Calls Try.prog 111 #[.slice a.pa a.preds.length a.pcap, .slice b.pa b.preds.length b.pcap] w' fun e w'' => e = .returned (.bool true) ∧ Below w'.heap.size w' w'')) (g0 : (a.rank == b.rank) = true) (g2 : (a.target.toList == b.target.toList) = true) (g3 : (a.ap == b.ap) = true) (g4 : (a.as_ == b.as_) = true) (g5 : (a.dp == b.dp) = true) (g6 : (a.dt == b.dt) = false) : Calls Try.prog 56 #[.agg #[.int .i64 a.rank, .slice a.pa a.preds.length a.pcap, .string a.target, .int .i64 a.ap, .int .i64 a.as_, .int .i64 a.dp, .int .i64 a.dt, .int .i64 a.mp, .string a.mirror, .int .i64 a.sample], .agg #[.int .i64 b.rank, .slice b.pa b.preds.length b.pcap, .string b.target, .int .i64 b.ap, .int .i64 b.as_, .int .i64 b.dp, .int .i64 b.dt, .int .i64 b.mp, .string b.mirror, .int .i64 b.sample]] W fun e w' => e = .returned (.bool false) ∧ Below W.heap.size W w' := by
  have HB1 : Hid (Below W.heap.size W ((W.alloc (.cells #[.int .i64 a.rank, .slice a.pa a.preds.length a.pcap, .string a.target, .int .i64 a.ap, .int .i64 a.as_, .int .i64 a.dp, .int .i64 a.dt, .int .i64 a.mp, .string a.mirror, .int .i64 a.sample] 60)).alloc (.cells #[.int .i64 b.rank, .slice b.pa b.preds.length b.pcap, .string b.target, .int .i64 b.ap, .int .i64 b.as_, .int .i64 b.dp, .int .i64 b.dt, .int .i64 b.mp, .string b.mirror, .int .i64 b.sample] 60))) := by show Below _ _ _; go_grown
  have HKA : Hid (Blk ((W.alloc (.cells #[.int .i64 a.rank, .slice a.pa a.preds.length a.pcap, .string a.target, .int .i64 a.ap, .int .i64 a.as_, .int .i64 a.dp, .int .i64 a.dt, .int .i64 a.mp, .string a.mirror, .int .i64 a.sample] 60)).alloc (.cells #[.int .i64 b.rank, .slice b.pa b.preds.length b.pcap, .string b.target, .int .i64 b.ap, .int .i64 b.as_, .int .i64 b.dp, .int .i64 b.dt, .int .i64 b.mp, .string b.mirror, .int .i64 b.sample] 60)) W.heap.size #[.int .i64 a.rank, .slice a.pa a.preds.length a.pcap, .string a.target, .int .i64 a.ap, .int .i64 a.as_, .int .i64 a.dp, .int .i64 a.dt, .int .i64 a.mp, .string a.mirror, .int .i64 a.sample] 60) := hid ((Blk.new _ _ _).alloc _)
  have HKB : Hid (Blk ((W.alloc (.cells #[.int .i64 a.rank, .slice a.pa a.preds.length a.pcap, .string a.target, .int .i64 a.ap, .int .i64 a.as_, .int .i64 a.dp, .int .i64 a.dt, .int .i64 a.mp, .string a.mirror, .int .i64 a.sample] 60)).alloc (.cells #[.int .i64 b.rank, .slice b.pa b.preds.length b.pcap, .string b.target, .int .i64 b.ap, .int .i64 b.as_, .int .i64 b.dp, .int .i64 b.dt, .int .i64 b.mp, .string b.mirror, .int .i64 b.sample] 60)) (W.heap.size + 1) #[.int .i64 b.rank, .slice b.pa b.preds.length b.pcap, .string b.target, .int .i64 b.ap, .int .i64 b.as_, .int .i64 b.dp, .int .i64 b.dt, .int .i64 b.mp, .string b.mirror, .int .i64 b.sample] 60) := hid (Blk.new' _ _ _ (by simp))
  go_enter Try.func56, Try.ntmps56
  go_wp2_with fail
  refine (HP.out _ HB1.out).mono ?_
  rintro e w2 ⟨rfl, hb2⟩
  have HB2 := hid (HB1.out.trans (hb2.mono HB1.out.size))
  have hka := HKA.out.below hb2 HKA.out.lt
  have hkb := HKB.out.below hb2 HKB.out.lt
  have hla := hka.lt
  have hlb := hkb.lt
  have c0 : w2.cell? ⟨W.heap.size, 0, none⟩ = some (.int .i64 a.rank) := hka.cell 0
  have c1 : w2.cell? ⟨W.heap.size, 1, none⟩ = some (.slice a.pa a.preds.length a.pcap) := hka.cell 1
  have c2 : w2.cell? ⟨W.heap.size, 2, none⟩ = some (.string a.target) := hka.cell 2
  have c3 : w2.cell? ⟨W.heap.size, 3, none⟩ = some (.int .i64 a.ap) := hka.cell 3
  have c4 : w2.cell? ⟨W.heap.size, 4, none⟩ = some (.int .i64 a.as_) := hka.cell 4
  have c5 : w2.cell? ⟨W.heap.size, 5, none⟩ = some (.int .i64 a.dp) := hka.cell 5
  have c6 : w2.cell? ⟨W.heap.size, 6, none⟩ = some (.int .i64 a.dt) := hka.cell 6
  have c7 : w2.cell? ⟨W.heap.size, 7, none⟩ = some (.int .i64 a.mp) := hka.cell 7
  have c8 : w2.cell? ⟨W.heap.size, 8, none⟩ = some (.string a.mirror) := hka.cell 8
  have c9 : w2.cell? ⟨W.heap.size, 9, none⟩ = some (.int .i64 a.sample) := hka.cell 9
  have d0 : w2.cell? ⟨W.heap.size + 1, 0, none⟩ = some (.int .i64 b.rank) := hkb.cell 0
  have d1 : w2.cell? ⟨W.heap.size + 1, 1, none⟩ = some (.slice b.pa b.preds.length b.pcap) := hkb.cell 1
  have d2 : w2.cell? ⟨W.heap.size + 1, 2, none⟩ = some (.string b.target) := hkb.cell 2
  have d3 : w2.cell? ⟨W.heap.size + 1, 3, none⟩ = some (.int .i64 b.ap) := hkb.cell 3
  have d4 : w2.cell? ⟨W.heap.size + 1, 4, none⟩ = some (.int .i64 b.as_) := hkb.cell 4
  have d5 : w2.cell? ⟨W.heap.size + 1, 5, none⟩ = some (.int .i64 b.dp) := hkb.cell 5
  have d6 : w2.cell? ⟨W.heap.size + 1, 6, none⟩ = some (.int .i64 b.dt) := hkb.cell 6
  have d7 : w2.cell? ⟨W.heap.size + 1, 7, none⟩ = some (.int .i64 b.mp) := hkb.cell 7
  have d8 : w2.cell? ⟨W.heap.size + 1, 8, none⟩ = some (.string b.mirror) := hkb.cell 8
  have d9 : w2.cell? ⟨W.heap.size + 1, 9, none⟩ = some (.int .i64 b.sample) := hkb.cell 9
  clear hka hkb
  clear hb2
  go_wp2_with fail
  go_ret
  exact ⟨rfl, HB2.out⟩
set_option maxRecDepth 100000 in
set_option maxHeartbeats 2000000 in
theorem one_7 (a b : Rl) (W : World) (HP : Hid (∀ w', Below W.heap.size W w' → Calls Try.prog 111 #[.slice a.pa a.preds.length a.pcap, .slice b.pa b.preds.length b.pcap] w' fun e w'' => e = .returned (.bool true) ∧ Below w'.heap.size w' w'')) (g0 : (a.rank == b.rank) = true) (g2 : (a.target.toList == b.target.toList) = true) (g3 : (a.ap == b.ap) = true) (g4 : (a.as_ == b.as_) = true) (g5 : (a.dp == b.dp) = true) (g6 : (a.dt == b.dt) = true) (g7 : (a.mp == b.mp) = false) : Calls Try.prog 56 #[.agg #[.int .i64 a.rank, .slice a.pa a.preds.length a.pcap, .string a.target, .int .i64 a.ap, .int .i64 a.as_, .int .i64 a.dp, .int .i64 a.dt, .int .i64 a.mp, .string a.mirror, .int .i64 a.sample], .agg #[.int .i64 b.rank, .slice b.pa b.preds.length b.pcap, .string b.target, .int .i64 b.ap, .int .i64 b.as_, .int .i64 b.dp, .int .i64 b.dt, .int .i64 b.mp, .string b.mirror, .int .i64 b.sample]] W fun e w' => e = .returned (.bool false) ∧ Below W.heap.size W w' := by
  have HB1 : Hid (Below W.heap.size W ((W.alloc (.cells #[.int .i64 a.rank, .slice a.pa a.preds.length a.pcap, .string a.target, .int .i64 a.ap, .int .i64 a.as_, .int .i64 a.dp, .int .i64 a.dt, .int .i64 a.mp, .string a.mirror, .int .i64 a.sample] 60)).alloc (.cells #[.int .i64 b.rank, .slice b.pa b.preds.length b.pcap, .string b.target, .int .i64 b.ap, .int .i64 b.as_, .int .i64 b.dp, .int .i64 b.dt, .int .i64 b.mp, .string b.mirror, .int .i64 b.sample] 60))) := by show Below _ _ _; go_grown
  have HKA : Hid (Blk ((W.alloc (.cells #[.int .i64 a.rank, .slice a.pa a.preds.length a.pcap, .string a.target, .int .i64 a.ap, .int .i64 a.as_, .int .i64 a.dp, .int .i64 a.dt, .int .i64 a.mp, .string a.mirror, .int .i64 a.sample] 60)).alloc (.cells #[.int .i64 b.rank, .slice b.pa b.preds.length b.pcap, .string b.target, .int .i64 b.ap, .int .i64 b.as_, .int .i64 b.dp, .int .i64 b.dt, .int .i64 b.mp, .string b.mirror, .int .i64 b.sample] 60)) W.heap.size #[.int .i64 a.rank, .slice a.pa a.preds.length a.pcap, .string a.target, .int .i64 a.ap, .int .i64 a.as_, .int .i64 a.dp, .int .i64 a.dt, .int .i64 a.mp, .string a.mirror, .int .i64 a.sample] 60) := hid ((Blk.new _ _ _).alloc _)
  have HKB : Hid (Blk ((W.alloc (.cells #[.int .i64 a.rank, .slice a.pa a.preds.length a.pcap, .string a.target, .int .i64 a.ap, .int .i64 a.as_, .int .i64 a.dp, .int .i64 a.dt, .int .i64 a.mp, .string a.mirror, .int .i64 a.sample] 60)).alloc (.cells #[.int .i64 b.rank, .slice b.pa b.preds.length b.pcap, .string b.target, .int .i64 b.ap, .int .i64 b.as_, .int .i64 b.dp, .int .i64 b.dt, .int .i64 b.mp, .string b.mirror, .int .i64 b.sample] 60)) (W.heap.size + 1) #[.int .i64 b.rank, .slice b.pa b.preds.length b.pcap, .string b.target, .int .i64 b.ap, .int .i64 b.as_, .int .i64 b.dp, .int .i64 b.dt, .int .i64 b.mp, .string b.mirror, .int .i64 b.sample] 60) := hid (Blk.new' _ _ _ (by simp))
  go_enter Try.func56, Try.ntmps56
  go_wp2_with fail
  refine (HP.out _ HB1.out).mono ?_
  rintro e w2 ⟨rfl, hb2⟩
  have HB2 := hid (HB1.out.trans (hb2.mono HB1.out.size))
  have hka := HKA.out.below hb2 HKA.out.lt
  have hkb := HKB.out.below hb2 HKB.out.lt
  have hla := hka.lt
  have hlb := hkb.lt
  have c0 : w2.cell? ⟨W.heap.size, 0, none⟩ = some (.int .i64 a.rank) := hka.cell 0
  have c1 : w2.cell? ⟨W.heap.size, 1, none⟩ = some (.slice a.pa a.preds.length a.pcap) := hka.cell 1
  have c2 : w2.cell? ⟨W.heap.size, 2, none⟩ = some (.string a.target) := hka.cell 2
  have c3 : w2.cell? ⟨W.heap.size, 3, none⟩ = some (.int .i64 a.ap) := hka.cell 3
  have c4 : w2.cell? ⟨W.heap.size, 4, none⟩ = some (.int .i64 a.as_) := hka.cell 4
  have c5 : w2.cell? ⟨W.heap.size, 5, none⟩ = some (.int .i64 a.dp) := hka.cell 5
  have c6 : w2.cell? ⟨W.heap.size, 6, none⟩ = some (.int .i64 a.dt) := hka.cell 6
  have c7 : w2.cell? ⟨W.heap.size, 7, none⟩ = some (.int .i64 a.mp) := hka.cell 7
  have c8 : w2.cell? ⟨W.heap.size, 8, none⟩ = some (.string a.mirror) := hka.cell 8
  have c9 : w2.cell? ⟨W.heap.size, 9, none⟩ = some (.int .i64 a.sample) := hka.cell 9
  have d0 : w2.cell? ⟨W.heap.size + 1, 0, none⟩ = some (.int .i64 b.rank) := hkb.cell 0
  have d1 : w2.cell? ⟨W.heap.size + 1, 1, none⟩ = some (.slice b.pa b.preds.length b.pcap) := hkb.cell 1
  have d2 : w2.cell? ⟨W.heap.size + 1, 2, none⟩ = some (.string b.target) := hkb.cell 2
  have d3 : w2.cell? ⟨W.heap.size + 1, 3, none⟩ = some (.int .i64 b.ap) := hkb.cell 3
  have d4 : w2.cell? ⟨W.heap.size + 1, 4, none⟩ = some (.int .i64 b.as_) := hkb.cell 4
  have d5 : w2.cell? ⟨W.heap.size + 1, 5, none⟩ = some (.int .i64 b.dp) := hkb.cell 5
  have d6 : w2.cell? ⟨W.heap.size + 1, 6, none⟩ = some (.int .i64 b.dt) := hkb.cell 6
  have d7 : w2.cell? ⟨W.heap.size + 1, 7, none⟩ = some (.int .i64 b.mp) := hkb.cell 7
  have d8 : w2.cell? ⟨W.heap.size + 1, 8, none⟩ = some (.string b.mirror) := hkb.cell 8
  have d9 : w2.cell? ⟨W.heap.size + 1, 9, none⟩ = some (.int .i64 b.sample) := hkb.cell 9
  clear hka hkb
  clear hb2
  go_wp2_with fail
  go_ret
  exact ⟨rfl, HB2.out⟩
end C12
end Go.Proofs.Ytmmmaldpalhjeaa
namespace Go.Proofs.Ytmmmaldpalhjeaa
open Go.RowKit Go.Peri
namespace C12
set_option maxRecDepth 100000 in
set_option maxHeartbeats 2000000 in
theorem one_8 (a b : Rl) (W : World) (HP : Hid (∀ w', Below W.heap.size W w' → Calls Try.prog 111 #[.slice a.pa a.preds.length a.pcap, .slice b.pa b.preds.length b.pcap] w' fun e w'' => e = .returned (.bool true) ∧ Below w'.heap.size w' w'')) (g0 : (a.rank == b.rank) = true) (g2 : (a.target.toList == b.target.toList) = true) (g3 : (a.ap == b.ap) = true) (g4 : (a.as_ == b.as_) = true) (g5 : (a.dp == b.dp) = true) (g6 : (a.dt == b.dt) = true) (g7 : (a.mp == b.mp) = true) (g8 : (a.mirror.toList == b.mirror.toList) = false) : Calls Try.prog 56 #[.agg #[.int .i64 a.rank, .slice a.pa a.preds.length a.pcap, .string a.target, .int .i64 a.ap, .int .i64 a.as_, .int .i64 a.dp, .int .i64 a.dt, .int .i64 a.mp, .string a.mirror, .int .i64 a.sample], .agg #[.int .i64 b.rank, .slice b.pa b.preds.length b.pcap, .string b.target, .int .i64 b.ap, .int .i64 b.as_, .int .i64 b.dp, .int .i64 b.dt, .int .i64 b.mp, .string b.mirror, .int .i64 b.sample]] W fun e w' => e = .returned (.bool false) ∧ Below W.heap.size W w' := by
  have HB1 : Hid (Below W.heap.size W ((W.alloc (.cells #[.int .i64 a.rank, .slice a.pa a.preds.length a.pcap, .string a.target, .int .i64 a.ap, .int .i64 a.as_, .int .i64 a.dp, .int .i64 a.dt, .int .i64 a.mp, .string a.mirror, .int .i64 a.sample] 60)).alloc (.cells #[.int .i64 b.rank, .slice b.pa b.preds.length b.pcap, .string b.target, .int .i64 b.ap, .int .i64 b.as_, .int .i64 b.dp, .int .i64 b.dt, .int .i64 b.mp, .string b.mirror, .int .i64 b.sample] 60))) := by show Below _ _ _; go_grown
  have HKA : Hid (Blk ((W.alloc (.cells #[.int .i64 a.rank, .slice a.pa a.preds.length a.pcap, .string a.target, .int .i64 a.ap, .int .i64 a.as_, .int .i64 a.dp, .int .i64 a.dt, .int .i64 a.mp, .string a.mirror, .int .i64 a.sample] 60)).alloc (.cells #[.int .i64 b.rank, .slice b.pa b.preds.length b.pcap, .string b.target, .int .i64 b.ap, .int .i64 b.as_, .int .i64 b.dp, .int .i64 b.dt, .int .i64 b.mp, .string b.mirror, .int .i64 b.sample] 60)) W.heap.size #[.int .i64 a.rank, .slice a.pa a.preds.length a.pcap, .string a.target, .int .i64 a.ap, .int .i64 a.as_, .int .i64 a.dp, .int .i64 a.dt, .int .i64 a.mp, .string a.mirror, .int .i64 a.sample] 60) := hid ((Blk.new _ _ _).alloc _)
  have HKB : Hid (Blk ((W.alloc (.cells #[.int .i64 a.rank, .slice a.pa a.preds.length a.pcap, .string a.target, .int .i64 a.ap, .int .i64 a.as_, .int .i64 a.dp, .int .i64 a.dt, .int .i64 a.mp, .string a.mirror, .int .i64 a.sample] 60)).alloc (.cells #[.int .i64 b.rank, .slice b.pa b.preds.length b.pcap, .string b.target, .int .i64 b.ap, .int .i64 b.as_, .int .i64 b.dp, .int .i64 b.dt, .int .i64 b.mp, .string b.mirror, .int .i64 b.sample] 60)) (W.heap.size + 1) #[.int .i64 b.rank, .slice b.pa b.preds.length b.pcap, .string b.target, .int .i64 b.ap, .int .i64 b.as_, .int .i64 b.dp, .int .i64 b.dt, .int .i64 b.mp, .string b.mirror, .int .i64 b.sample] 60) := hid (Blk.new' _ _ _ (by simp))
  go_enter Try.func56, Try.ntmps56
  go_wp2_with fail
  refine (HP.out _ HB1.out).mono ?_
  rintro e w2 ⟨rfl, hb2⟩
  have HB2 := hid (HB1.out.trans (hb2.mono HB1.out.size))
  have hka := HKA.out.below hb2 HKA.out.lt
  have hkb := HKB.out.below hb2 HKB.out.lt
  have hla := hka.lt
  have hlb := hkb.lt
  have c0 : w2.cell? ⟨W.heap.size, 0, none⟩ = some (.int .i64 a.rank) := hka.cell 0
  have c1 : w2.cell? ⟨W.heap.size, 1, none⟩ = some (.slice a.pa a.preds.length a.pcap) := hka.cell 1
  have c2 : w2.cell? ⟨W.heap.size, 2, none⟩ = some (.string a.target) := hka.cell 2
  have c3 : w2.cell? ⟨W.heap.size, 3, none⟩ = some (.int .i64 a.ap) := hka.cell 3
  have c4 : w2.cell? ⟨W.heap.size, 4, none⟩ = some (.int .i64 a.as_) := hka.cell 4
  have c5 : w2.cell? ⟨W.heap.size, 5, none⟩ = some (.int .i64 a.dp) := hka.cell 5
  have c6 : w2.cell? ⟨W.heap.size, 6, none⟩ = some (.int .i64 a.dt) := hka.cell 6
  have c7 : w2.cell? ⟨W.heap.size, 7, none⟩ = some (.int .i64 a.mp) := hka.cell 7
  have c8 : w2.cell? ⟨W.heap.size, 8, none⟩ = some (.string a.mirror) := hka.cell 8
  have c9 : w2.cell? ⟨W.heap.size, 9, none⟩ = some (.int .i64 a.sample) := hka.cell 9
  have d0 : w2.cell? ⟨W.heap.size + 1, 0, none⟩ = some (.int .i64 b.rank) := hkb.cell 0
  have d1 : w2.cell? ⟨W.heap.size + 1, 1, none⟩ = some (.slice b.pa b.preds.length b.pcap) := hkb.cell 1
  have d2 : w2.cell? ⟨W.heap.size + 1, 2, none⟩ = some (.string b.target) := hkb.cell 2
  have d3 : w2.cell? ⟨W.heap.size + 1, 3, none⟩ = some (.int .i64 b.ap) := hkb.cell 3
  have d4 : w2.cell? ⟨W.heap.size + 1, 4, none⟩ = some (.int .i64 b.as_) := hkb.cell 4
  have d5 : w2.cell? ⟨W.heap.size + 1, 5, none⟩ = some (.int .i64 b.dp) := hkb.cell 5
  have d6 : w2.cell? ⟨W.heap.size + 1, 6, none⟩ = some (.int .i64 b.dt) := hkb.cell 6
  have d7 : w2.cell? ⟨W.heap.size + 1, 7, none⟩ = some (.int .i64 b.mp) := hkb.cell 7
  have d8 : w2.cell? ⟨W.heap.size + 1, 8, none⟩ = some (.string b.mirror) := hkb.cell 8
  have d9 : w2.cell? ⟨W.heap.size + 1, 9, none⟩ = some (.int .i64 b.sample) := hkb.cell 9
  clear hka hkb
  clear hb2
  go_wp2_with fail
  go_ret
  exact ⟨rfl, HB2.out⟩
set_option maxRecDepth 100000 in
set_option maxHeartbeats 2000000 in
theorem one_9 (a b : Rl) (W : World) (HP : Hid (∀ w', Below W.heap.size W w' → Calls Try.prog 111 #[.slice a.pa a.preds.length a.pcap, .slice b.pa b.preds.length b.pcap] w' fun e w'' => e = .returned (.bool true) ∧ Below w'.heap.size w' w'')) (g0 : (a.rank == b.rank) = true) (g2 : (a.target.toList == b.target.toList) = true) (g3 : (a.ap == b.ap) = true) (g4 : (a.as_ == b.as_) = true) (g5 : (a.dp == b.dp) = true) (g6 : (a.dt == b.dt) = true) (g7 : (a.mp == b.mp) = true) (g8 : (a.mirror.toList == b.mirror.toList) = true) (g9 : (a.sample == b.sample) = false) : Calls Try.prog 56 #[.agg #[.int .i64 a.rank, .slice a.pa a.preds.length a.pcap, .string a.target, .int .i64 a.ap, .int .i64 a.as_, .int .i64 a.dp, .int .i64 a.dt, .int .i64 a.mp, .string a.mirror, .int .i64 a.sample], .agg #[.int .i64 b.rank, .slice b.pa b.preds.length b.pcap, .string b.target, .int .i64 b.ap, .int .i64 b.as_, .int .i64 b.dp, .int .i64 b.dt, .int .i64 b.mp, .string b.mirror, .int .i64 b.sample]] W fun e w' => e = .returned (.bool false) ∧ Below W.heap.size W w' := by
  have HB1 : Hid (Below W.heap.size W ((W.alloc (.cells #[.int .i64 a.rank, .slice a.pa a.preds.length a.pcap, .string a.target, .int .i64 a.ap, .int .i64 a.as_, .int .i64 a.dp, .int .i64 a.dt, .int .i64 a.mp, .string a.mirror, .int .i64 a.sample] 60)).alloc (.cells #[.int .i64 b.rank, .slice b.pa b.preds.length b.pcap, .string b.target, .int .i64 b.ap, .int .i64 b.as_, .int .i64 b.dp, .int .i64 b.dt, .int .i64 b.mp, .string b.mirror, .int .i64 b.sample] 60))) := by show Below _ _ _; go_grown
  have HKA : Hid (Blk ((W.alloc (.cells #[.int .i64 a.rank, .slice a.pa a.preds.length a.pcap, .string a.target, .int .i64 a.ap, .int .i64 a.as_, .int .i64 a.dp, .int .i64 a.dt, .int .i64 a.mp, .string a.mirror, .int .i64 a.sample] 60)).alloc (.cells #[.int .i64 b.rank, .slice b.pa b.preds.length b.pcap, .string b.target, .int .i64 b.ap, .int .i64 b.as_, .int .i64 b.dp, .int .i64 b.dt, .int .i64 b.mp, .string b.mirror, .int .i64 b.sample] 60)) W.heap.size #[.int .i64 a.rank, .slice a.pa a.preds.length a.pcap, .string a.target, .int .i64 a.ap, .int .i64 a.as_, .int .i64 a.dp, .int .i64 a.dt, .int .i64 a.mp, .string a.mirror, .int .i64 a.sample] 60) := hid ((Blk.new _ _ _).alloc _)
  have HKB : Hid (Blk ((W.alloc (.cells #[.int .i64 a.rank, .slice a.pa a.preds.length a.pcap, .string a.target, .int .i64 a.ap, .int .i64 a.as_, .int .i64 a.dp, .int .i64 a.dt, .int .i64 a.mp, .string a.mirror, .int .i64 a.sample] 60)).alloc (.cells #[.int .i64 b.rank, .slice b.pa b.preds.length b.pcap, .string b.target, .int .i64 b.ap, .int .i64 b.as_, .int .i64 b.dp, .int .i64 b.dt, .int .i64 b.mp, .string b.mirror, .int .i64 b.sample] 60)) (W.heap.size + 1) #[.int .i64 b.rank, .slice b.pa b.preds.length b.pcap, .string b.target, .int .i64 b.ap, .int .i64 b.as_, .int .i64 b.dp, .int .i64 b.dt, .int .i64 b.mp, .string b.mirror, .int .i64 b.sample] 60) := hid (Blk.new' _ _ _ (by simp))
  go_enter Try.func56, Try.ntmps56
  go_wp2_with fail
  refine (HP.out _ HB1.out).mono ?_
  rintro e w2 ⟨rfl, hb2⟩
  have HB2 := hid (HB1.out.trans (hb2.mono HB1.out.size))
  have hka := HKA.out.below hb2 HKA.out.lt
  have hkb := HKB.out.below hb2 HKB.out.lt
  have hla := hka.lt
  have hlb := hkb.lt
  have c0 : w2.cell? ⟨W.heap.size, 0, none⟩ = some (.int .i64 a.rank) := hka.cell 0
  have c1 : w2.cell? ⟨W.heap.size, 1, none⟩ = some (.slice a.pa a.preds.length a.pcap) := hka.cell 1
  have c2 : w2.cell? ⟨W.heap.size, 2, none⟩ = some (.string a.target) := hka.cell 2
  have c3 : w2.cell? ⟨W.heap.size, 3, none⟩ = some (.int .i64 a.ap) := hka.cell 3
  have c4 : w2.cell? ⟨W.heap.size, 4, none⟩ = some (.int .i64 a.as_) := hka.cell 4
  have c5 : w2.cell? ⟨W.heap.size, 5, none⟩ = some (.int .i64 a.dp) := hka.cell 5
  have c6 : w2.cell? ⟨W.heap.size, 6, none⟩ = some (.int .i64 a.dt) := hka.cell 6
  have c7 : w2.cell? ⟨W.heap.size, 7, none⟩ = some (.int .i64 a.mp) := hka.cell 7
  have c8 : w2.cell? ⟨W.heap.size, 8, none⟩ = some (.string a.mirror) := hka.cell 8
  have c9 : w2.cell? ⟨W.heap.size, 9, none⟩ = some (.int .i64 a.sample) := hka.cell 9
  have d0 : w2.cell? ⟨W.heap.size + 1, 0, none⟩ = some (.int .i64 b.rank) := hkb.cell 0
  have d1 : w2.cell? ⟨W.heap.size + 1, 1, none⟩ = some (.slice b.pa b.preds.length b.pcap) := hkb.cell 1
  have d2 : w2.cell? ⟨W.heap.size + 1, 2, none⟩ = some (.string b.target) := hkb.cell 2
  have d3 : w2.cell? ⟨W.heap.size + 1, 3, none⟩ = some (.int .i64 b.ap) := hkb.cell 3
  have d4 : w2.cell? ⟨W.heap.size + 1, 4, none⟩ = some (.int .i64 b.as_) := hkb.cell 4
  have d5 : w2.cell? ⟨W.heap.size + 1, 5, none⟩ = some (.int .i64 b.dp) := hkb.cell 5
  have d6 : w2.cell? ⟨W.heap.size + 1, 6, none⟩ = some (.int .i64 b.dt) := hkb.cell 6
  have d7 : w2.cell? ⟨W.heap.size + 1, 7, none⟩ = some (.int .i64 b.mp) := hkb.cell 7
  have d8 : w2.cell? ⟨W.heap.size + 1, 8, none⟩ = some (.string b.mirror) := hkb.cell 8
  have d9 : w2.cell? ⟨W.heap.size + 1, 9, none⟩ = some (.int .i64 b.sample) := hkb.cell 9
  clear hka hkb
  clear hb2
  go_wp2_with fail
  go_ret
  exact ⟨rfl, HB2.out⟩
set_option maxRecDepth 100000 in
set_option maxHeartbeats 2000000 in
theorem one_10 (a b : Rl) (W : World) (HP : Hid (∀ w', Below W.heap.size W w' → Calls Try.prog 111 #[.slice a.pa a.preds.length a.pcap, .slice b.pa b.preds.length b.pcap] w' fun e w'' => e = .returned (.bool true) ∧ Below w'.heap.size w' w'')) (g0 : (a.rank == b.rank) = true) (g2 : (a.target.toList == b.target.toList) = true) (g3 : (a.ap == b.ap) = true) (g4 : (a.as_ == b.as_) = true) (g5 : (a.dp == b.dp) = true) (g6 : (a.dt == b.dt) = true) (g7 : (a.mp == b.mp) = true) (g8 : (a.mirror.toList == b.mirror.toList) = true) (g9 : (a.sample == b.sample) = true) : Calls Try.prog 56 #[.agg #[.int .i64 a.rank, .slice a.pa a.preds.length a.pcap, .string a.target, .int .i64 a.ap, .int .i64 a.as_, .int .i64 a.dp, .int .i64 a.dt, .int .i64 a.mp, .string a.mirror, .int .i64 a.sample], .agg #[.int .i64 b.rank, .slice b.pa b.preds.length b.pcap, .string b.target, .int .i64 b.ap, .int .i64 b.as_, .int .i64 b.dp, .int .i64 b.dt, .int .i64 b.mp, .string b.mirror, .int .i64 b.sample]] W fun e w' => e = .returned (.bool true) ∧ Below W.heap.size W w' := by
  have HB1 : Hid (Below W.heap.size W ((W.alloc (.cells #[.int .i64 a.rank, .slice a.pa a.preds.length a.pcap, .string a.target, .int .i64 a.ap, .int .i64 a.as_, .int .i64 a.dp, .int .i64 a.dt, .int .i64 a.mp, .string a.mirror, .int .i64 a.sample] 60)).alloc (.cells #[.int .i64 b.rank, .slice b.pa b.preds.length b.pcap, .string b.target, .int .i64 b.ap, .int .i64 b.as_, .int .i64 b.dp, .int .i64 b.dt, .int .i64 b.mp, .string b.mirror, .int .i64 b.sample] 60))) := by show Below _ _ _; go_grown
  have HKA : Hid (Blk ((W.alloc (.cells #[.int .i64 a.rank, .slice a.pa a.preds.length a.pcap, .string a.target, .int .i64 a.ap, .int .i64 a.as_, .int .i64 a.dp, .int .i64 a.dt, .int .i64 a.mp, .string a.mirror, .int .i64 a.sample] 60)).alloc (.cells #[.int .i64 b.rank, .slice b.pa b.preds.length b.pcap, .string b.target, .int .i64 b.ap, .int .i64 b.as_, .int .i64 b.dp, .int .i64 b.dt, .int .i64 b.mp, .string b.mirror, .int .i64 b.sample] 60)) W.heap.size #[.int .i64 a.rank, .slice a.pa a.preds.length a.pcap, .string a.target, .int .i64 a.ap, .int .i64 a.as_, .int .i64 a.dp, .int .i64 a.dt, .int .i64 a.mp, .string a.mirror, .int .i64 a.sample] 60) := hid ((Blk.new _ _ _).alloc _)
  have HKB : Hid (Blk ((W.alloc (.cells #[.int .i64 a.rank, .slice a.pa a.preds.length a.pcap, .string a.target, .int .i64 a.ap, .int .i64 a.as_, .int .i64 a.dp, .int .i64 a.dt, .int .i64 a.mp, .string a.mirror, .int .i64 a.sample] 60)).alloc (.cells #[.int .i64 b.rank, .slice b.pa b.preds.length b.pcap, .string b.target, .int .i64 b.ap, .int .i64 b.as_, .int .i64 b.dp, .int .i64 b.dt, .int .i64 b.mp, .string b.mirror, .int .i64 b.sample] 60)) (W.heap.size + 1) #[.int .i64 b.rank, .slice b.pa b.preds.length b.pcap, .string b.target, .int .i64 b.ap, .int .i64 b.as_, .int .i64 b.dp, .int .i64 b.dt, .int .i64 b.mp, .string b.mirror, .int .i64 b.sample] 60) := hid (Blk.new' _ _ _ (by simp))
  go_enter Try.func56, Try.ntmps56
  go_wp2_with fail
  refine (HP.out _ HB1.out).mono ?_
  rintro e w2 ⟨rfl, hb2⟩
  have HB2 := hid (HB1.out.trans (hb2.mono HB1.out.size))
  have hka := HKA.out.below hb2 HKA.out.lt
  have hkb := HKB.out.below hb2 HKB.out.lt
  have hla := hka.lt
  have hlb := hkb.lt
  have c0 : w2.cell? ⟨W.heap.size, 0, none⟩ = some (.int .i64 a.rank) := hka.cell 0
  have c1 : w2.cell? ⟨W.heap.size, 1, none⟩ = some (.slice a.pa a.preds.length a.pcap) := hka.cell 1
  have c2 : w2.cell? ⟨W.heap.size, 2, none⟩ = some (.string a.target) := hka.cell 2
  have c3 : w2.cell? ⟨W.heap.size, 3, none⟩ = some (.int .i64 a.ap) := hka.cell 3
  have c4 : w2.cell? ⟨W.heap.size, 4, none⟩ = some (.int .i64 a.as_) := hka.cell 4
  have c5 : w2.cell? ⟨W.heap.size, 5, none⟩ = some (.int .i64 a.dp) := hka.cell 5
  have c6 : w2.cell? ⟨W.heap.size, 6, none⟩ = some (.int .i64 a.dt) := hka.cell 6
  have c7 : w2.cell? ⟨W.heap.size, 7, none⟩ = some (.int .i64 a.mp) := hka.cell 7
  have c8 : w2.cell? ⟨W.heap.size, 8, none⟩ = some (.string a.mirror) := hka.cell 8
  have c9 : w2.cell? ⟨W.heap.size, 9, none⟩ = some (.int .i64 a.sample) := hka.cell 9
  have d0 : w2.cell? ⟨W.heap.size + 1, 0, none⟩ = some (.int .i64 b.rank) := hkb.cell 0
  have d1 : w2.cell? ⟨W.heap.size + 1, 1, none⟩ = some (.slice b.pa b.preds.length b.pcap) := hkb.cell 1
  have d2 : w2.cell? ⟨W.heap.size + 1, 2, none⟩ = some (.string b.target) := hkb.cell 2
  have d3 : w2.cell? ⟨W.heap.size + 1, 3, none⟩ = some (.int .i64 b.ap) := hkb.cell 3
  have d4 : w2.cell? ⟨W.heap.size + 1, 4, none⟩ = some (.int .i64 b.as_) := hkb.cell 4
  have d5 : w2.cell? ⟨W.heap.size + 1, 5, none⟩ = some (.int .i64 b.dp) := hkb.cell 5
  have d6 : w2.cell? ⟨W.heap.size + 1, 6, none⟩ = some (.int .i64 b.dt) := hkb.cell 6
  have d7 : w2.cell? ⟨W.heap.size + 1, 7, none⟩ = some (.int .i64 b.mp) := hkb.cell 7
  have d8 : w2.cell? ⟨W.heap.size + 1, 8, none⟩ = some (.string b.mirror) := hkb.cell 8
  have d9 : w2.cell? ⟨W.heap.size + 1, 9, none⟩ = some (.int .i64 b.sample) := hkb.cell 9
  clear hka hkb
  clear hb2
  go_wp2_with fail
  go_ret
  exact ⟨rfl, HB2.out⟩
end C12
end Go.Proofs.Ytmmmaldpalhjeaa
namespace Go.Proofs.Ytmmmaldpalhjeaa
open Go.RowKit Go.Peri
namespace C12
def oneB (a b : Rl) : Bool := decide (a.rank = b.rank) && decide (a.preds = b.preds) && decide (a.target = b.target) && decide (a.ap = b.ap) && decide (a.as_ = b.as_) && decide (a.dp = b.dp) && decide (a.dt = b.dt) && decide (a.mp = b.mp) && decide (a.mirror = b.mirror) && decide (a.sample = b.sample)
theorem oneB_core (a b : Rl) : oneB a b = true ↔ a.core = b.core := by
  constructor
  · intro h
    simp only [oneB, Bool.and_eq_true, decide_eq_true_eq] at h
    exact Rl.core_of h.1.1.1.1.1.1.1.1.1 h.1.1.1.1.1.1.1.1.2 h.1.1.1.1.1.1.1.2 h.1.1.1.1.1.1.2 h.1.1.1.1.1.2 h.1.1.1.1.2 h.1.1.1.2 h.1.1.2 h.1.2 h.2
  · intro h
    obtain ⟨h0, h1, h2, h3, h4, h5, h6, h7, h8, h9⟩ := Rl.core_eq h
    simp [oneB, h0, h1, h2, h3, h4, h5, h6, h7, h8, h9]
theorem one_any {p q' : Nat → Prop} (a b : Rl) (r : Bool) (W : World) (ha : a.At p W) (hp : ∀ b, p b → b < W.heap.size) (hb : b.At q' W) (hq' : ∀ b, q' b → b < W.heap.size) (hla : a.preds.length ≤ 1000000000000) (hlb : b.preds.length ≤ 1000000000000) (hr : oneB a b = r) :
    Calls Try.prog 56 #[.agg #[.int .i64 a.rank, .slice a.pa a.preds.length a.pcap, .string a.target, .int .i64 a.ap, .int .i64 a.as_, .int .i64 a.dp, .int .i64 a.dt, .int .i64 a.mp, .string a.mirror, .int .i64 a.sample], .agg #[.int .i64 b.rank, .slice b.pa b.preds.length b.pcap, .string b.target, .int .i64 b.ap, .int .i64 b.as_, .int .i64 b.dp, .int .i64 b.dt, .int .i64 b.mp, .string b.mirror, .int .i64 b.sample]] W fun e w' => e = .returned (.bool r) ∧ Below W.heap.size W w' := by
  have HP : ∀ q, decide (a.preds = b.preds) = q → Hid (∀ w', Below W.heap.size W w' → Calls Try.prog 111 #[.slice a.pa a.preds.length a.pcap, .slice b.pa b.preds.length b.pcap] w' fun e w'' => e = .returned (.bool q) ∧ Below w'.heap.size w' w'') := fun q hq =>
    hid (fun w' hw => psame_any _ _ a.preds b.preds q w' (RowsOf.below ha hw hp) (fun b h => Nat.lt_of_lt_of_le (hp b h) hw.size) (RowsOf.below hb hw hq') (fun b h => Nat.lt_of_lt_of_le (hq' b h) hw.size) hla hlb hq)
  clear ha hb hp hq' hla hlb
  subst hr
  by_cases e0 : a.rank = b.rank
  rotate_left
  · have hr : oneB a b = false := by simp [oneB, e0]
    rw [hr]
    exact one_0 a b W (by simpa using e0)
  by_cases e1 : a.preds = b.preds
  rotate_left
  · have hr : oneB a b = false := by simp [oneB, e1]
    rw [hr]
    exact one_1 a b W (HP false (by simpa using e1)) (by simpa using e0)
  by_cases e2 : a.target = b.target
  rotate_left
  · have hr : oneB a b = false := by simp [oneB, e2]
    rw [hr]
    exact one_2 a b W (HP true (by simpa using e1)) (by simpa using e0) (by rw [bytes_beq]; simpa using e2)
  by_cases e3 : a.ap = b.ap
  rotate_left
  · have hr : oneB a b = false := by simp [oneB, e3]
    rw [hr]
    exact one_3 a b W (HP true (by simpa using e1)) (by simpa using e0) (by rw [bytes_beq]; simpa using e2) (by simpa using e3)
  by_cases e4 : a.as_ = b.as_
  rotate_left
  · have hr : oneB a b = false := by simp [oneB, e4]
    rw [hr]
    exact one_4 a b W (HP true (by simpa using e1)) (by simpa using e0) (by rw [bytes_beq]; simpa using e2) (by simpa using e3) (by simpa using e4)
  by_cases e5 : a.dp = b.dp
  rotate_left
  · have hr : oneB a b = false := by simp [oneB, e5]
    rw [hr]
    exact one_5 a b W (HP true (by simpa using e1)) (by simpa using e0) (by rw [bytes_beq]; simpa using e2) (by simpa using e3) (by simpa using e4) (by simpa using e5)
  by_cases e6 : a.dt = b.dt
  rotate_left
  · have hr : oneB a b = false := by simp [oneB, e6]
    rw [hr]
    exact one_6 a b W (HP true (by simpa using e1)) (by simpa using e0) (by rw [bytes_beq]; simpa using e2) (by simpa using e3) (by simpa using e4) (by simpa using e5) (by simpa using e6)
  by_cases e7 : a.mp = b.mp
  rotate_left
  · have hr : oneB a b = false := by simp [oneB, e7]
    rw [hr]
    exact one_7 a b W (HP true (by simpa using e1)) (by simpa using e0) (by rw [bytes_beq]; simpa using e2) (by simpa using e3) (by simpa using e4) (by simpa using e5) (by simpa using e6) (by simpa using e7)
  by_cases e8 : a.mirror = b.mirror
  rotate_left
  · have hr : oneB a b = false := by simp [oneB, e8]
    rw [hr]
    exact one_8 a b W (HP true (by simpa using e1)) (by simpa using e0) (by rw [bytes_beq]; simpa using e2) (by simpa using e3) (by simpa using e4) (by simpa using e5) (by simpa using e6) (by simpa using e7) (by rw [bytes_beq]; simpa using e8)
  by_cases e9 : a.sample = b.sample
  rotate_left
  · have hr : oneB a b = false := by simp [oneB, e9]
    rw [hr]
    exact one_9 a b W (HP true (by simpa using e1)) (by simpa using e0) (by rw [bytes_beq]; simpa using e2) (by simpa using e3) (by simpa using e4) (by simpa using e5) (by simpa using e6) (by simpa using e7) (by rw [bytes_beq]; simpa using e8) (by simpa using e9)
  have hr : oneB a b = true := by simp [oneB, e0, e1, e2, e3, e4, e5, e6, e7, e8, e9]
  rw [hr]
  exact one_10 a b W (HP true (by simpa using e1)) (by simpa using e0) (by rw [bytes_beq]; simpa using e2) (by simpa using e3) (by simpa using e4) (by simpa using e5) (by simpa using e6) (by simpa using e7) (by rw [bytes_beq]; simpa using e8) (by simpa using e9)
end C12
end Go.Proofs.Ytmmmaldpalhjeaa
namespace Go.Proofs.Ytmmmaldpalhjeaa
open Go.RowKit Go.Peri
namespace C12
def sameB : List Rl → List Rl → Bool
  | [], [] => true
  | a :: l, b :: m => oneB a b && sameB l m
  | _, _ => false
theorem sameB_core : ∀ l m : List Rl, sameB l m = true ↔ l.map Rl.core = m.map Rl.core
  | [], [] => by simp [sameB]
  | [], _ :: _ => by simp [sameB]
  | _ :: _, [] => by simp [sameB]
  | a :: l, b :: m => by
    rw [sameB, Bool.and_eq_true, oneB_core, sameB_core l m, List.map_cons, List.map_cons, List.cons.injEq]
theorem sameB_len {l m : List Rl} (h : l.length ≠ m.length) : sameB l m = false := by
  rw [Bool.eq_false_iff]
  intro hc
  have := congrArg List.length ((sameB_core l m).1 hc)
  simp at this
  exact h this
theorem sameB_hit {l m : List Rl} {k : Nat} (h1 : k < l.length) (h2 : k < m.length) (h : oneB l[k] m[k] = false) : sameB l m = false := by
  rw [Bool.eq_false_iff]
  intro hc
  have he := (sameB_core l m).1 hc
  have : l[k].core = m[k].core := by
    have e1 : (l.map Rl.core)[k]? = (m.map Rl.core)[k]? := by rw [he]
    rw [List.getElem?_map, List.getElem?_map, List.getElem?_eq_getElem h1, List.getElem?_eq_getElem h2] at e1
    simpa using e1
  rw [(oneB_core _ _).2 this] at h
  cases h
theorem sameB_all {l m : List Rl} (hl : l.length = m.length) (h : ∀ j (h1 : j < l.length) (h2 : j < m.length), oneB l[j] m[j] = true) : sameB l m = true := by
  rw [sameB_core]
  refine List.ext_getElem (by simpa using hl) fun j h1 h2 => ?_
  rw [List.getElem_map, List.getElem_map]
  exact (oneB_core _ _).1 (h j (by simpa using h1) (by simpa using h2))
set_option maxRecDepth 100000 in
set_option maxHeartbeats 1000000 in
theorem same_any (u v : Value) (l m : List Rl) (r : Bool) (W : World) (h : RowsOf (· < W.heap.size) Rl.enc 10 W u l) (h2 : RowsOf (· < W.heap.size) Rl.enc 10 W v m) (ha : ∀ x ∈ l, x.At (· < W.heap.size) W) (ha2 : ∀ x ∈ m, x.At (· < W.heap.size) W)
    (hl : l.length ≤ 1000000000000) (hm : m.length ≤ 1000000000000) (hps : ∀ x ∈ l, x.preds.length ≤ 1000000000000) (hps2 : ∀ x ∈ m, x.preds.length ≤ 1000000000000) (hr : sameB l m = r) :
    Calls Try.prog 51 #[u, v] W fun e w' => e = .returned (.bool r) ∧ Below W.heap.size W w' := by
  obtain ⟨a, cap, rfl, hlc, hcm, _, hcell⟩ := h
  obtain ⟨a2, cap2, rfl, hlc2, hcm2, _, hcell2⟩ := h2
  have HC := hid hcell
  have HC2 := hid hcell2
  have HR := hid hr
  have HA := hid ha
  have HA2 := hid ha2
  have HPS := hid hps
  have HPS2 := hid hps2
  clear hcell hcell2 hr ha ha2 hps hps2
  by_cases hlen : l.length = m.length
  · have HLEN := hid hlen
    have hle2 : ((l.length : Int) == (m.length : Int)) = true := by simp [hlen]
    have hle3 : ((m.length : Int) == (m.length : Int)) = true := by simp
    generalize hn : l.length = n at hlen hlc hl HLEN hle2
    have HN := hid hn
    clear hn
    subst hlen
    go_enter Try.func51, Try.ntmps51
    go_wp2_with fail
    go_loopw [5] (fun i wr => ∃ k : Nat, k ≤ m.length ∧ i = .int .i64 k ∧ Below W.heap.size W wr ∧ ∀ j (_ : j < k) (h1 : j < l.length) (h2 : j < m.length), oneB l[j] m[j] = true) (fun i _ => m.length - (intOf i).toNat)
    case atStart => exact ⟨0, Nat.zero_le _, rfl, Below.refl _ _, fun j hj => absurd hj (Nat.not_lt_zero _)⟩
    case round =>
      obtain ⟨k, hk, rfl, hb, hno⟩ := hrel
      have HB := hid hb
      have HE := hid hno
      clear hb hno
      by_cases hlt : k < m.length
      · have hlt1 : k < l.length := by rw [HN.out]; exact hlt
        obtain ⟨b, off, rfl, hpb, hc⟩ := HC.out.resolve_left (by intro e; rw [e] at hlt1; simp at hlt1)
        obtain ⟨b2, off2, rfl, hpb2, hc2⟩ := HC2.out.resolve_left (by intro e; rw [e] at hlt; simp at hlt)
        have hbl : b < wr.heap.size := Nat.lt_of_lt_of_le hpb HB.out.size
        have hbl2 : b2 < wr.heap.size := Nat.lt_of_lt_of_le hpb2 HB.out.size
        obtain ⟨c0, c1, c2, c3, c4, c5, c6, c7, c8, c9⟩ := Rl.cells (fun j u hu => (HB.out.cell (p := ⟨b, off + k * 10 + j, none⟩) hpb).trans (hc k hlt1 j u hu))
        obtain ⟨d0, d1, d2, d3, d4, d5, d6, d7, d8, d9⟩ := Rl.cells (fun j u hu => (HB.out.cell (p := ⟨b2, off2 + k * 10 + j, none⟩) hpb2).trans (hc2 k hlt j u hu))
        have HNext : Hid (oneB l[k] m[k] = true → ∀ j (_ : j < k + 1) (h1 : j < l.length) (h2 : j < m.length), oneB l[j] m[j] = true) := by
          intro he j hj h1 h2
          by_cases e : j = k
          · subst e; exact he
          · exact HE.out j (by omega) h1 h2
        have HHit : Hid (oneB l[k] m[k] = false → r = false) := fun hh => HR.out.symm.trans (sameB_hit hlt1 hlt hh)
        have hx1 := (HA.out l[k] (List.getElem_mem hlt1)).below HB.out (fun _ h => h)
        have hy1 := (HA2.out m[k] (List.getElem_mem hlt)).below HB.out (fun _ h => h)
        have hx2 := HPS.out l[k] (List.getElem_mem hlt1)
        have hy2 := HPS2.out m[k] (List.getElem_mem hlt)
        clear hc hc2
        generalize l[k] = x at c0 c1 c2 c3 c4 c5 c6 c7 c8 c9 HNext HHit hx1 hx2
        generalize m[k] = y at d0 d1 d2 d3 d4 d5 d6 d7 d8 d9 HNext HHit hy1 hy2
        obtain ⟨q, hq⟩ : ∃ q, oneB x y = q := ⟨_, rfl⟩
        have X : Hid (∀ z : BW wr, Calls Try.prog 56 #[.agg #[.int .i64 x.rank, .slice x.pa x.preds.length x.pcap, .string x.target, .int .i64 x.ap, .int .i64 x.as_, .int .i64 x.dp, .int .i64 x.dt, .int .i64 x.mp, .string x.mirror, .int .i64 x.sample], .agg #[.int .i64 y.rank, .slice y.pa y.preds.length y.pcap, .string y.target, .int .i64 y.ap, .int .i64 y.as_, .int .i64 y.dp, .int .i64 y.dt, .int .i64 y.mp, .string y.mirror, .int .i64 y.sample]] z.val fun e w' => e = .returned (.bool q) ∧ Below z.val.heap.size z.val w') :=
          hid (fun z => one_any x y q z.val (hx1.below z.prop (fun b hb => Nat.lt_of_lt_of_le hb HB.out.size)) (fun b hb => Nat.lt_of_lt_of_le hb (Nat.le_trans HB.out.size z.prop.size)) (hy1.below z.prop (fun b hb => Nat.lt_of_lt_of_le hb HB.out.size)) (fun b hb => Nat.lt_of_lt_of_le hb (Nat.le_trans HB.out.size z.prop.size)) hx2 hy2 hq)
        rw [hq] at HNext HHit
        clear hx1 hx2 hy1 hy2 hq
        cases q
        · have HRF := hid (HHit.out rfl)
          clear HHit HNext
          go_wp2_with fail
          refine wp_region_bw (by kernel_rfl) (by kernel_rfl) ?_
          repeat (go_big_quiet_step ((go_at_call 56; exact bw_call (X.out _))))
          refine wpQuiet_nil ?_
          rintro w2 ⟨⟨_, hb2⟩, rfl⟩
          have HB2 : Hid (Below W.heap.size W w2) := HB.out.trans (hb2.mono HB.out.size)
          clear hb2
          go_wp2_with fail
          go_ret
          exact ⟨by rw [HRF.out]; rfl, HB2.out⟩
        · have HN2 := hid (HNext.out rfl)
          clear HHit HNext
          go_wp2_with fail
          refine wp_region_bw (by kernel_rfl) (by kernel_rfl) ?_
          repeat (go_big_quiet_step ((go_at_call 56; exact bw_call (X.out _))))
          refine wpQuiet_nil ?_
          rintro w2 ⟨⟨_, hb2⟩, rfl⟩
          have HB2 : Hid (Below W.heap.size W w2) := HB.out.trans (hb2.mono HB.out.size)
          clear hb2
          go_wp2_with fail
          go_roundw
          case rel => exact ⟨k + 1, by omega, by go_num, HB2.out, HN2.out⟩
          case measure => simp [intOf]; omega
      · obtain rfl : k = m.length := by omega
        have HRT : Hid (r = true) := by
          show _ = _
          rw [← HR.out]
          exact sameB_all HN.out (fun j h1 h2 => HE.out j h2 h1 h2)
        go_wp2_with fail
        go_ret
        exact ⟨by rw [HRT.out]; rfl, HB.out⟩
  · have HL : Hid (r = false) := by show _ = _; rw [← HR.out]; exact sameB_len hlen
    have hle2 : ((l.length : Int) == (m.length : Int)) = false := by rw [beq_eq_false_iff_ne]; omega
    clear hlen
    go_enter Try.func51, Try.ntmps51
    go_wp2_with fail
    go_ret
    exact ⟨by rw [HL.out]; rfl, Below.refl _ _⟩
end C12
end Go.Proofs.Ytmmmaldpalhjeaa
