/- Walks of layer 12 (rule): two rules that differ in one of the first fields; no condition. Walks of layer 12 (rule): two rules that differ in one of the middle fields; no condition. Walks of layer 12 (rule): two rules that differ in one of the last fields, or are alike; no condition. Rules whose predicates lie in memory of their own. No program in sight. -/
import Derived.Test.YtmmmaldpalhjeaaMg07
import Derived.Test.YtmmmaldpalhjeaaMg06
import Derived.Test.YtmmmaldpalhjeaaMg02
namespace Go.Proofs.Ytmmmaldpalhjeaa
open Go.RowKit Go.Peri
namespace C12
set_option maxRecDepth 100000 in
set_option maxHeartbeats 2000000 in
theorem one_0 (a b : Rl) (W : World) (g0 : (a.rank == b.rank) = false) : Calls Try.prog 56 #[.agg #[.int .i64 a.rank, .slice a.pa a.preds.length a.pcap, .string a.target, .int .i64 a.ap, .int .i64 a.as_, .int .i64 a.dp, .int .i64 a.dt, .int .i64 a.mp, .string a.mirror, .int .i64 a.sample], .agg #[.int .i64 b.rank, .slice b.pa b.preds.length b.pcap, .string b.target, .int .i64 b.ap, .int .i64 b.as_, .int .i64 b.dp, .int .i64 b.dt, .int .i64 b.mp, .string b.mirror, .int .i64 b.sample]] W fun e w' => e = .returned (.bool false) ∧ Below W.heap.size W w' := by
  have HB1 : Hid (Below W.heap.size W ((W.alloc (.cells #[.int .i64 a.rank, .slice a.pa a.preds.length a.pcap, .string a.target, .int .i64 a.ap, .int .i64 a.as_, .int .i64 a.dp, .int .i64 a.dt, .int .i64 a.mp, .string a.mirror, .int .i64 a.sample] 60)).alloc (.cells #[.int .i64 b.rank, .slice b.pa b.preds.length b.pcap, .string b.target, .int .i64 b.ap, .int .i64 b.as_, .int .i64 b.dp, .int .i64 b.dt, .int .i64 b.mp, .string b.mirror, .int .i64 b.sample] 60))) := by show Below _ _ _; go_grown
  go_enter Try.func56, Try.ntmps56
  go_wp2_with fail
  go_ret
  exact ⟨rfl, HB1.out⟩
set_option maxRecDepth 100000 in
set_option maxHeartbeats 2000000 in
theorem one_1 (a b : Rl) (W : World) (HP : Hid (∀ w', Below W.heap.size W w' → Calls Try.prog 111 #[.slice a.pa a.preds.length a.pcap, .slice b.pa b.preds.length b.pcap] w' fun e w'' => e = .returned (.bool false) ∧ Below w'.heap.size w' w'')) (g0 : (a.rank == b.rank) = true) : Calls Try.prog 56 #[.agg #[.int .i64 a.rank, .slice a.pa a.preds.length a.pcap, .string a.target, .int .i64 a.ap, .int .i64 a.as_, .int .i64 a.dp, .int .i64 a.dt, .int .i64 a.mp, .string a.mirror, .int .i64 a.sample], .agg #[.int .i64 b.rank, .slice b.pa b.preds.length b.pcap, .string b.target, .int .i64 b.ap, .int .i64 b.as_, .int .i64 b.dp, .int .i64 b.dt, .int .i64 b.mp, .string b.mirror, .int .i64 b.sample]] W fun e w' => e = .returned (.bool false) ∧ Below W.heap.size W w' := by
  have HB1 : Hid (Below W.heap.size W ((W.alloc (.cells #[.int .i64 a.rank, .slice a.pa a.preds.length a.pcap, .string a.target, .int .i64 a.ap, .int .i64 a.as_, .int .i64 a.dp, .int .i64 a.dt, .int .i64 a.mp, .string a.mirror, .int .i64 a.sample] 60)).alloc (.cells #[.int .i64 b.rank, .slice b.pa b.preds.length b.pcap, .string b.target, .int .i64 b.ap, .int .i64 b.as_, .int .i64 b.dp, .int .i64 b.dt, .int .i64 b.mp, .string b.mirror, .int .i64 b.sample] 60))) := by show Below _ _ _; go_grown
  have HKA : Hid (Blk ((W.alloc (.cells #[.int .i64 a.rank, .slice a.pa a.preds.length a.pcap, .string a.target, .int .i64 a.ap, .int .i64 a.as_, .int .i64 a.dp, .int .i64 a.dt, .int .i64 a.mp, .string a.mirror, .int .i64 a.sample] 60)).alloc (.cells #[.int .i64 b.rank, .slice b.pa b.preds.length b.pcap, .string b.target, .int .i64 b.ap, .int .i64 b.as_, .int .i64 b.dp, .int .i64 b.dt, .int .i64 b.mp, .string b.mirror, .int .i64 b.sample] 60)) W.heap.size #[.int .i64 a.rank, .slice a.pa a.preds.length a.pcap, .string a.target, .int .i64 a.ap, .int .i64 a.as_, .int .i64 a.dp, .int .i64 a.dt, .int .i64 a.mp, .string a.mirror, .int .i64 a.sample] 60) := hid ((Blk.new _ _ _).alloc _)
  have HKB : Hid (Blk ((W.alloc (.cells #[.int .i64 a.rank, .slice a.pa a.preds.length a.pcap, .string a.target, .int .i64 a.ap, .int .i64 a.as_, .int .i64 a.dp, .int .i64 a.dt, .int .i64 a.mp, .string a.mirror, .int .i64 a.sample] 60)).alloc (.cells #[.int .i64 b.rank, .slice b.pa b.preds.length b.pcap, .string b.target, .int .i64 b.ap, .int .i64 b.as_, .int .i64 b.dp, .int .i64 b.dt, .int .i64 b.mp, .string b.mirror, .int .i64 b.sample] 60)) (W.heap.size + 1) #[.int .i64 b.rank, .slice b.pa b.preds.length b.pcap, .string b.target, .int .i64 b.ap, .int .i64 b.as_, .int .i64 b.dp, .int .i64 b.dt, .int .i64 b.mp, .string b.mirror, .int .i64 b.sample] 60) := hid (Blk.new' _ _ _ (by simp))
  go_enter Try.func56, Try.ntmps56
  go_wp2_with fail
  refine (HP.out _ HB1.out).mono ?_
  rintro e w2 ⟨rfl, hb2⟩
  have HB2 := hid (HB1.out.trans (hb2.mono HB1.out.size))
  have hka := HKA.out.below hb2 HKA.out.lt
  have hkb := HKB.out.below hb2 HKB.out.lt
  have hla := hka.lt
  have hlb := hkb.lt
  have c0 : w2.cell? ⟨W.heap.size, 0, none⟩ = some (.int .i64 a.rank) := hka.cell 0
  have c1 : w2.cell? ⟨W.heap.size, 1, none⟩ = some (.slice a.pa a.preds.length a.pcap) := hka.cell 1
  have c2 : w2.cell? ⟨W.heap.size, 2, none⟩ = some (.string a.target) := hka.cell 2
  have c3 : w2.cell? ⟨W.heap.size, 3, none⟩ = some (.int .i64 a.ap) := hka.cell 3
  have c4 : w2.cell? ⟨W.heap.size, 4, none⟩ = some (.int .i64 a.as_) := hka.cell 4
  have c5 : w2.cell? ⟨W.heap.size, 5, none⟩ = some (.int .i64 a.dp) := hka.cell 5
  have c6 : w2.cell? ⟨W.heap.size, 6, none⟩ = some (.int .i64 a.dt) := hka.cell 6
  have c7 : w2.cell? ⟨W.heap.size, 7, none⟩ = some (.int .i64 a.mp) := hka.cell 7
  have c8 : w2.cell? ⟨W.heap.size, 8, none⟩ = some (.string a.mirror) := hka.cell 8
  have c9 : w2.cell? ⟨W.heap.size, 9, none⟩ = some (.int .i64 a.sample) := hka.cell 9
  have d0 : w2.cell? ⟨W.heap.size + 1, 0, none⟩ = some (.int .i64 b.rank) := hkb.cell 0
  have d1 : w2.cell? ⟨W.heap.size + 1, 1, none⟩ = some (.slice b.pa b.preds.length b.pcap) := hkb.cell 1
  have d2 : w2.cell? ⟨W.heap.size + 1, 2, none⟩ = some (.string b.target) := hkb.cell 2
  have d3 : w2.cell? ⟨W.heap.size + 1, 3, none⟩ = some (.int .i64 b.ap) := hkb.cell 3
  have d4 : w2.cell? ⟨W.heap.size + 1, 4, none⟩ = some (.int .i64 b.as_) := hkb.cell 4
  have d5 : w2.cell? ⟨W.heap.size + 1, 5, none⟩ = some (.int .i64 b.dp) := hkb.cell 5
  have d6 : w2.cell? ⟨W.heap.size + 1, 6, none⟩ = some (.int .i64 b.dt) := hkb.cell 6
  have d7 : w2.cell? ⟨W.heap.size + 1, 7, none⟩ = some (.int .i64 b.mp) := hkb.cell 7
  have d8 : w2.cell? ⟨W.heap.size + 1, 8, none⟩ = some (.string b.mirror) := hkb.cell 8
  have d9 : w2.cell? ⟨W.heap.size + 1, 9, none⟩ = some (.int .i64 b.sample) := hkb.cell 9
  clear hka hkb
  clear hb2
  go_wp2_with fail
  go_ret
  exact ⟨rfl, HB2.out⟩
set_option maxRecDepth 100000 in
set_option maxHeartbeats 2000000 in
theorem one_2 (a b : Rl) (W : World) (HP : Hid (∀ w', Below W.heap.size W w' → Calls Try.prog 111 #[.slice a.pa a.preds.length a.pcap, .slice b.pa b.preds.length b.pcap] w' fun e w'' => e = .returned (.bool true) ∧ Below w'.heap.size w' w'')) (g0 : (a.rank == b.rank) = true) (g2 : (a.target.toList == b.target.toList) = false) : Calls Try.prog 56 #[.agg #[.int .i64 a.rank, .slice a.pa a.preds.length a.pcap, .string a.target, .int .i64 a.ap, .int .i64 a.as_, .int .i64 a.dp, .int .i64 a.dt, .int .i64 a.mp, .string a.mirror, .int .i64 a.sample], .agg #[.int .i64 b.rank, .slice b.pa b.preds.length b.pcap, .string b.target, .int .i64 b.ap, .int .i64 b.as_, .int .i64 b.dp, .int .i64 b.dt, .int .i64 b.mp, .string b.mirror, .int .i64 b.sample]] W fun e w' => e = .returned (.bool false) ∧ Below W.heap.size W w' := by
  have HB1 : Hid (Below W.heap.size W ((W.alloc (.cells #[.int .i64 a.rank, .slice a.pa a.preds.length a.pcap, .string a.target, .int .i64 a.ap, .int .i64 a.as_, .int .i64 a.dp, .int .i64 a.dt, .int .i64 a.mp, .string a.mirror, .int .i64 a.sample] 60)).alloc (.cells #[.int .i64 b.rank, .slice b.pa b.preds.length b.pcap, .string b.target, .int .i64 b.ap, .int .i64 b.as_, .int .i64 b.dp, .int .i64 b.dt, .int .i64 b.mp, .string b.mirror, .int .i64 b.sample] 60))) := by show Below _ _ _; go_grown
  have HKA : Hid (Blk ((W.alloc (.cells #[.int .i64 a.rank, .slice a.pa a.preds.length a.pcap, .string a.target, .int .i64 a.ap, .int .i64 a.as_, .int .i64 a.dp, .int .i64 a.dt, .int .i64 a.mp, .string a.mirror, .int .i64 a.sample] 60)).alloc (.cells #[.int .i64 b.rank, .slice b.pa b.preds.length b.pcap, .string b.target, .int .i64 b.ap, .int .i64 b.as_, .int .i64 b.dp, .int .i64 b.dt, .int .i64 b.mp, .string b.mirror, .int .i64 b.sample] 60)) W.heap.size #[.int .i64 a.rank, .slice a.pa a.preds.length a.pcap, .string a.target, .int .i64 a.ap, .int .i64 a.as_, .int .i64 a.dp, .int .i64 a.dt, .int .i64 a.mp, .string a.mirror, .int .i64 a.sample] 60) := hid ((Blk.new _ _ _).alloc _)
  have HKB : Hid (Blk ((W.alloc (.cells #[.int .i64 a.rank, .slice a.pa a.preds.length a.pcap, .string a.target, .int .i64 a.ap, .int .i64 a.as_, .int .i64 a.dp, .int .i64 a.dt, .int .i64 a.mp, .string a.mirror, .int .i64 a.sample] 60)).alloc (.cells #[.int .i64 b.rank, .slice b.pa b.preds.length b.pcap, .string b.target, .int .i64 b.ap, .int .i64 b.as_, .int .i64 b.dp, .int .i64 b.dt, .int .i64 b.mp, .string b.mirror, .int .i64 b.sample] 60)) (W.heap.size + 1) #[.int .i64 b.rank, .slice b.pa b.preds.length b.pcap, .string b.target, .int .i64 b.ap, .int .i64 b.as_, .int .i64 b.dp, .int .i64 b.dt, .int .i64 b.mp, .string b.mirror, .int .i64 b.sample] 60) := hid (Blk.new' _ _ _ (by simp))
  go_enter Try.func56, Try.ntmps56
  go_wp2_with fail
  refine (HP.out _ HB1.out).mono ?_
  rintro e w2 ⟨rfl, hb2⟩
  have HB2 := hid (HB1.out.trans (hb2.mono HB1.out.size))
  have hka := HKA.out.below hb2 HKA.out.lt
  have hkb := HKB.out.below hb2 HKB.out.lt
  have hla := hka.lt
  have hlb := hkb.lt
  have c0 : w2.cell? ⟨W.heap.size, 0, none⟩ = some (.int .i64 a.rank) := hka.cell 0
  have c1 : w2.cell? ⟨W.heap.size, 1, none⟩ = some (.slice a.pa a.preds.length a.pcap) := hka.cell 1
  have c2 : w2.cell? ⟨W.heap.size, 2, none⟩ = some (.string a.target) := hka.cell 2
  have c3 : w2.cell? ⟨W.heap.size, 3, none⟩ = some (.int .i64 a.ap) := hka.cell 3
  have c4 : w2.cell? ⟨W.heap.size, 4, none⟩ = some (.int .i64 a.as_) := hka.cell 4
  have c5 : w2.cell? ⟨W.heap.size, 5, none⟩ = some (.int .i64 a.dp) := hka.cell 5
  have c6 : w2.cell? ⟨W.heap.size, 6, none⟩ = some (.int .i64 a.dt) := hka.cell 6
  have c7 : w2.cell? ⟨W.heap.size, 7, none⟩ = some (.int .i64 a.mp) := hka.cell 7
  have c8 : w2.cell? ⟨W.heap.size, 8, none⟩ = some (.string a.mirror) := hka.cell 8
  have c9 : w2.cell? ⟨W.heap.size, 9, none⟩ = some (.int .i64 a.sample) := hka.cell 9
  have d0 : w2.cell? ⟨W.heap.size + 1, 0, none⟩ = some (.int .i64 b.rank) := hkb.cell 0
  have d1 : w2.cell? ⟨W.heap.size + 1, 1, none⟩ = some (.slice b.pa b.preds.length b.pcap) := hkb.cell 1
  have d2 : w2.cell? ⟨W.heap.size + 1, 2, none⟩ = some (.string b.target) := hkb.cell 2
  have d3 : w2.cell? ⟨W.heap.size + 1, 3, none⟩ = some (.int .i64 b.ap) := hkb.cell 3
  have d4 : w2.cell? ⟨W.heap.size + 1, 4, none⟩ = some (.int .i64 b.as_) := hkb.cell 4
  have d5 : w2.cell? ⟨W.heap.size + 1, 5, none⟩ = some (.int .i64 b.dp) := hkb.cell 5
  have d6 : w2.cell? ⟨W.heap.size + 1, 6, none⟩ = some (.int .i64 b.dt) := hkb.cell 6
  have d7 : w2.cell? ⟨W.heap.size + 1, 7, none⟩ = some (.int .i64 b.mp) := hkb.cell 7
  have d8 : w2.cell? ⟨W.heap.size + 1, 8, none⟩ = some (.string b.mirror) := hkb.cell 8
  have d9 : w2.cell? ⟨W.heap.size + 1, 9, none⟩ = some (.int .i64 b.sample) := hkb.cell 9
  clear hka hkb
  clear hb2
  go_wp2_with fail
  go_ret
  exact ⟨rfl, HB2.out⟩
set_option maxRecDepth 100000 in
set_option maxHeartbeats 2000000 in
theorem one_3 (a b : Rl) (W : World) (HP : Hid (∀ w', Below W.heap.size W w' → Calls Try.prog 111 #[.slice a.pa a.preds.length a.pcap, .slice b.pa b.preds.length b.pcap] w' fun e w'' => e = .returned (.bool true) ∧ Below w'.heap.size w' w'')) (g0 : (a.rank == b.rank) = true) (g2 : (a.target.toList == b.target.toList) = true) (g3 : (a.ap == b.ap) = false) : Calls Try.prog 56 #[.agg #[.int .i64 a.rank, .slice a.pa a.preds.length a.pcap, .string a.target, .int .i64 a.ap, .int .i64 a.as_, .int .i64 a.dp, .int .i64 a.dt, .int .i64 a.mp, .string a.mirror, .int .i64 a.sample], .agg #[.int .i64 b.rank, .slice b.pa b.preds.length b.pcap, .string b.target, .int .i64 b.ap, .int .i64 b.as_, .int .i64 b.dp, .int .i64 b.dt, .int .i64 b.mp, .string b.mirror, .int .i64 b.sample]] W fun e w' => e = .returned (.bool false) ∧ Below W.heap.size W w' := by
  have HB1 : Hid (Below W.heap.size W ((W.alloc (.cells #[.int .i64 a.rank, .slice a.pa a.preds.length a.pcap, .string a.target, .int .i64 a.ap, .int .i64 a.as_, .int .i64 a.dp, .int .i64 a.dt, .int .i64 a.mp, .string a.mirror, .int .i64 a.sample] 60)).alloc (.cells #[.int .i64 b.rank, .slice b.pa b.preds.length b.pcap, .string b.target, .int .i64 b.ap, .int .i64 b.as_, .int .i64 b.dp, .int .i64 b.dt, .int .i64 b.mp, .string b.mirror, .int .i64 b.sample] 60))) := by show Below _ _ _; go_grown
  have HKA : Hid (Blk ((W.alloc (.cells #[.int .i64 a.rank, .slice a.pa a.preds.length a.pcap, .string a.target, .int .i64 a.ap, .int .i64 a.as_, .int .i64 a.dp, .int .i64 a.dt, .int .i64 a.mp, .string a.mirror, .int .i64 a.sample] 60)).alloc (.cells #[.int .i64 b.rank, .slice b.pa b.preds.length b.pcap, .string b.target, .int .i64 b.ap, .int .i64 b.as_, .int .i64 b.dp, .int .i64 b.dt, .int .i64 b.mp, .string b.mirror, .int .i64 b.sample] 60)) W.heap.size #[.int .i64 a.rank, .slice a.pa a.preds.length a.pcap, .string a.target, .int .i64 a.ap, .int .i64 a.as_, .int .i64 a.dp, .int .i64 a.dt, .int .i64 a.mp, .string a.mirror, .int .i64 a.sample] 60) := hid ((Blk.new _ _ _).alloc _)
  have HKB : Hid (Blk ((W.alloc (.cells #[.int .i64 a.rank, .slice a.pa a.preds.length a.pcap, .string a.target, .int .i64 a.ap, .int .i64 a.as_, .int .i64 a.dp, .int .i64 a.dt, .int .i64 a.mp, .string a.mirror, .int .i64 a.sample] 60)).alloc (.cells #[.int .i64 b.rank, .slice b.pa b.preds.length b.pcap, .string b.target, .int .i64 b.ap, .int .i64 b.as_, .int .i64 b.dp, .int .i64 b.dt, .int .i64 b.mp, .string b.mirror, .int .i64 b.sample] 60)) (W.heap.size + 1) #[.int .i64 b.rank, .slice b.pa b.preds.length b.pcap, .string b.target, .int .i64 b.ap, .int .i64 b.as_, .int .i64 b.dp, .int .i64 b.dt, .int .i64 b.mp, .string b.mirror, .int .i64 b.sample] 60) := hid (Blk.new' _ _ _ (by simp))
  go_enter Try.func56, Try.ntmps56
  go_wp2_with fail
  refine (HP.out _ HB1.out).mono ?_
  rintro e w2 ⟨rfl, hb2⟩
  have HB2 := hid (HB1.out.trans (hb2.mono HB1.out.size))
  have hka := HKA.out.below hb2 HKA.out.lt
  have hkb := HKB.out.below hb2 HKB.out.lt
  have hla := hka.lt
  have hlb := hkb.lt
  have c0 : w2.cell? ⟨W.heap.size, 0, none⟩ = some (.int .i64 a.rank) := hka.cell 0
  have c1 : w2.cell? ⟨W.heap.size, 1, none⟩ = some (.slice a.pa a.preds.length a.pcap) := hka.cell 1
  have c2 : w2.cell? ⟨W.heap.size, 2, none⟩ = some (.string a.target) := hka.cell 2
  have c3 : w2.cell? ⟨W.heap.size, 3, none⟩ = some (.int .i64 a.ap) := hka.cell 3
  have c4 : w2.cell? ⟨W.heap.size, 4, none⟩ = some (.int .i64 a.as_) := hka.cell 4
  have c5 : w2.cell? ⟨W.heap.size, 5, none⟩ = some (.int .i64 a.dp) := hka.cell 5
  have c6 : w2.cell? ⟨W.heap.size, 6, none⟩ = some (.int .i64 a.dt) := hka.cell 6
  have c7 : w2.cell? ⟨W.heap.size, 7, none⟩ = some (.int .i64 a.mp) := hka.cell 7
  have c8 : w2.cell? ⟨W.heap.size, 8, none⟩ = some (.string a.mirror) := hka.cell 8
  have c9 : w2.cell? ⟨W.heap.size, 9, none⟩ = some (.int .i64 a.sample) := hka.cell 9
  have d0 : w2.cell? ⟨W.heap.size + 1, 0, none⟩ = some (.int .i64 b.rank) := hkb.cell 0
  have d1 : w2.cell? ⟨W.heap.size + 1, 1, none⟩ = some (.slice b.pa b.preds.length b.pcap) := hkb.cell 1
  have d2 : w2.cell? ⟨W.heap.size + 1, 2, none⟩ = some (.string b.target) := hkb.cell 2
  have d3 : w2.cell? ⟨W.heap.size + 1, 3, none⟩ = some (.int .i64 b.ap) := hkb.cell 3
  have d4 : w2.cell? ⟨W.heap.size + 1, 4, none⟩ = some (.int .i64 b.as_) := hkb.cell 4
  have d5 : w2.cell? ⟨W.heap.size + 1, 5, none⟩ = some (.int .i64 b.dp) := hkb.cell 5
  have d6 : w2.cell? ⟨W.heap.size + 1, 6, none⟩ = some (.int .i64 b.dt) := hkb.cell 6
  have d7 : w2.cell? ⟨W.heap.size + 1, 7, none⟩ = some (.int .i64 b.mp) := hkb.cell 7
  have d8 : w2.cell? ⟨W.heap.size + 1, 8, none⟩ = some (.string b.mirror) := hkb.cell 8
  have d9 : w2.cell? ⟨W.heap.size + 1, 9, none⟩ = some (.int .i64 b.sample) := hkb.cell 9
  clear hka hkb
  clear hb2
  go_wp2_with fail
  go_ret
  exact ⟨rfl, HB2.out⟩
set_option maxRecDepth 100000 in
set_option maxHeartbeats 2000000 in
theorem one_4 (a b : Rl) (W : World) (HP : Hid (∀ w', Below W.heap.size W w' → Calls Try.prog 111 #[.slice a.pa a.preds.length a.pcap, .slice b.pa b.preds.length b.pcap] w' fun e w'' => e = .returned (.bool true) ∧ Below w'.heap.size w' w'')) (g0 : (a.rank == b.rank) = true) (g2 : (a.target.toList == b.target.toList) = true) (g3 : (a.ap == b.ap) = true) (g4 : (a.as_ == b.as_) = false) : Calls Try.prog 56 #[.agg #[.int .i64 a.rank, .slice a.pa a.preds.length a.pcap, .string a.target, .int .i64 a.ap, .int .i64 a.as_, .int .i64 a.dp, .int .i64 a.dt, .int .i64 a.mp, .string a.mirror, .int .i64 a.sample], .agg #[.int .i64 b.rank, .slice b.pa b.preds.length b.pcap, .string b.target, .int .i64 b.ap, .int .i64 b.as_, .int .i64 b.dp, .int .i64 b.dt, .int .i64 b.mp, .string b.mirror, .int .i64 b.sample]] W fun e w' => e = .returned (.bool false) ∧ Below W.heap.size W w' := by
  have HB1 : Hid (Below W.heap.size W ((W.alloc (.cells #[.int .i64 a.rank, .slice a.pa a.preds.length a.pcap, .string a.target, .int .i64 a.ap, .int .i64 a.as_, .int .i64 a.dp, .int .i64 a.dt, .int .i64 a.mp, .string a.mirror, .int .i64 a.sample] 60)).alloc (.cells #[.int .i64 b.rank, .slice b.pa b.preds.length b.pcap, .string b.target, .int .i64 b.ap, .int .i64 b.as_, .int .i64 b.dp, .int .i64 b.dt, .int .i64 b.mp, .string b.mirror, .int .i64 b.sample] 60))) := by show Below _ _ _; go_grown
  have HKA : Hid (Blk ((W.alloc (.cells #[.int .i64 a.rank, .slice a.pa a.preds.length a.pcap, .string a.target, .int .i64 a.ap, .int .i64 a.as_, .int .i64 a.dp, .int .i64 a.dt, .int .i64 a.mp, .string a.mirror, .int .i64 a.sample] 60)).alloc (.cells #[.int .i64 b.rank, .slice b.pa b.preds.length b.pcap, .string b.target, .int .i64 b.ap, .int .i64 b.as_, .int .i64 b.dp, .int .i64 b.dt, .int .i64 b.mp, .string b.mirror, .int .i64 b.sample] 60)) W.heap.size #[.int .i64 a.rank, .slice a.pa a.preds.length a.pcap, .string a.target, .int .i64 a.ap, .int .i64 a.as_, .int .i64 a.dp, .int .i64 a.dt, .int .i64 a.mp, .string a.mirror, .int .i64 a.sample] 60) := hid ((Blk.new _ _ _).alloc _)
  have HKB : Hid (Blk ((W.alloc (.cells #[.int .i64 a.rank, .slice a.pa a.preds.length a.pcap, .string a.target, .int .i64 a.ap, .int .i64 a.as_, .int .i64 a.dp, .int .i64 a.dt, .int .i64 a.mp, .string a.mirror, .int .i64 a.sample] 60)).alloc (.cells #[.int .i64 b.rank, .slice b.pa b.preds.length b.pcap, .string b.target, .int .i64 b.ap, .int .i64 b.as_, .int .i64 b.dp, .int .i64 b.dt, .int .i64 b.mp, .string b.mirror, .int .i64 b.sample] 60)) (W.heap.size + 1) #[.int .i64 b.rank, .slice b.pa b.preds.length b.pcap, .string b.target, .int .i64 b.ap, .int .i64 b.as_, .int .i64 b.dp, .int .i64 b.dt, .int .i64 b.mp, .string b.mirror, .int .i64 b.sample] 60) := hid (Blk.new' _ _ _ (by simp))
  go_enter Try.func56, Try.ntmps56
  go_wp2_with fail
  refine (HP.out _ HB1.out).mono ?_
  rintro e w2 ⟨rfl, hb2⟩
  have HB2 := hid (HB1.out.trans (hb2.mono HB1.out.size))
  have hka := HKA.out.below hb2 HKA.out.lt
  have hkb := HKB.out.below hb2 HKB.out.lt
  have hla := hka.lt
  have hlb := hkb.lt
  have c0 : w2.cell? ⟨W.heap.size, 0, none⟩ = some (.int .i64 a.rank) := hka.cell 0
  have c1 : w2.cell? ⟨W.heap.size, 1, none⟩ = some (.slice a.pa a.preds.length a.pcap) := hka.cell 1
  have c2 : w2.cell? ⟨W.heap.size, 2, none⟩ = some (.string a.target) := hka.cell 2
  have c3 : w2.cell? ⟨W.heap.size, 3, none⟩ = some (.int .i64 a.ap) := hka.cell 3
  have c4 : w2.cell? ⟨W.heap.size, 4, none⟩ = some (.int .i64 a.as_) := hka.cell 4
  have c5 : w2.cell? ⟨W.heap.size, 5, none⟩ = some (.int .i64 a.dp) := hka.cell 5
  have c6 : w2.cell? ⟨W.heap.size, 6, none⟩ = some (.int .i64 a.dt) := hka.cell 6
  have c7 : w2.cell? ⟨W.heap.size, 7, none⟩ = some (.int .i64 a.mp) := hka.cell 7
  have c8 : w2.cell? ⟨W.heap.size, 8, none⟩ = some (.string a.mirror) := hka.cell 8
  have c9 : w2.cell? ⟨W.heap.size, 9, none⟩ = some (.int .i64 a.sample) := hka.cell 9
  have d0 : w2.cell? ⟨W.heap.size + 1, 0, none⟩ = some (.int .i64 b.rank) := hkb.cell 0
  have d1 : w2.cell? ⟨W.heap.size + 1, 1, none⟩ = some (.slice b.pa b.preds.length b.pcap) := hkb.cell 1
  have d2 : w2.cell? ⟨W.heap.size + 1, 2, none⟩ = some (.string b.target) := hkb.cell 2
  have d3 : w2.cell? ⟨W.heap.size + 1, 3, none⟩ = some (.int .i64 b.ap) := hkb.cell 3
  have d4 : w2.cell? ⟨W.heap.size + 1, 4, none⟩ = some (.int .i64 b.as_) := hkb.cell 4
  have d5 : w2.cell? ⟨W.heap.size + 1, 5, none⟩ = some (.int .i64 b.dp) := hkb.cell 5
  have d6 : w2.cell? ⟨W.heap.size + 1, 6, none⟩ = some (.int .i64 b.dt) := hkb.cell 6
  have d7 : w2.cell? ⟨W.heap.size + 1, 7, none⟩ = some (.int .i64 b.mp) := hkb.cell 7
  have d8 : w2.cell? ⟨W.heap.size + 1, 8, none⟩ = some (.string b.mirror) := hkb.cell 8
  have d9 : w2.cell? ⟨W.heap.size + 1, 9, none⟩ = some (.int .i64 b.sample) := hkb.cell 9
  clear hka hkb
  clear hb2
  go_wp2_with fail
  go_ret
  exact ⟨rfl, HB2.out⟩
end C12
end Go.Proofs.Ytmmmaldpalhjeaa
namespace Go.Proofs.Ytmmmaldpalhjeaa
open Go.RowKit Go.Peri
namespace C12
set_option maxRecDepth 100000 in
set_option maxHeartbeats 2000000 in
theorem one_5 (a b : Rl) (W : World) (HP : Hid (∀ w', Below W.heap.size W w' → Calls Try.prog 111 #[.slice a.pa a.preds.length a.pcap, .slice b.pa b.preds.length b.pcap] w' fun e w'' => e = .returned (.bool true) ∧ Below w'.heap.size w' w'')) (g0 : (a.rank == b.rank) = true) (g2 : (a.target.toList == b.target.toList) = true) (g3 : (a.ap == b.ap) = true) (g4 : (a.as_ == b.as_) = true) (g5 : (a.dp == b.dp) = false) : Calls Try.prog 56 #[.agg #[.int .i64 a.rank, .slice a.pa a.preds.length a.pcap, .string a.target, .int .i64 a.ap, .int .i64 a.as_, .int .i64 a.dp, .int .i64 a.dt, .int .i64 a.mp, .string a.mirror, .int .i64 a.sample], .agg #[.int .i64 b.rank, .slice b.pa b.preds.length b.pcap, .string b.target, .int .i64 b.ap, .int .i64 b.as_, .int .i64 b.dp, .int .i64 b.dt, .int .i64 b.mp, .string b.mirror, .int .i64 b.sample]] W fun e w' => e = .returned (.bool false) ∧ Below W.heap.size W w' := by
  have HB1 : Hid (Below W.heap.size W ((W.alloc (.cells #[.int .i64 a.rank, .slice a.pa a.preds.length a.pcap, .string a.target, .int .i64 a.ap, .int .i64 a.as_, .int .i64 a.dp, .int .i64 a.dt, .int .i64 a.mp, .string a.mirror, .int .i64 a.sample] 60)).alloc (.cells #[.int .i64 b.rank, .slice b.pa b.preds.length b.pcap, .string b.target, .int .i64 b.ap, .int .i64 b.as_, .int .i64 b.dp, .int .i64 b.dt, .int .i64 b.mp, .string b.mirror, .int .i64 b.sample] 60))) := by show Below _ _ _; go_grown
  have HKA : Hid (Blk ((W.alloc (.cells #[.int .i64 a.rank, .slice a.pa a.preds.length a.pcap, .string a.target, .int .i64 a.ap, .int .i64 a.as_, .int .i64 a.dp, .int .i64 a.dt, .int .i64 a.mp, .string a.mirror, .int .i64 a.sample] 60)).alloc (.cells #[.int .i64 b.rank, .slice b.pa b.preds.length b.pcap, .string b.target, .int .i64 b.ap, .int .i64 b.as_, .int .i64 b.dp, .int .i64 b.dt, .int .i64 b.mp, .string b.mirror, .int .i64 b.sample] 60)) W.heap.size #[.int .i64 a.rank, .slice a.pa a.preds.length a.pcap, .string a.target, .int .i64 a.ap, .int .i64 a.as_, .int .i64 a.dp, .int .i64 a.dt, .int .i64 a.mp, .string a.mirror, .int .i64 a.sample] 60) := hid ((Blk.new _ _ _).alloc _)
  have HKB : Hid (Blk ((W.alloc (.cells #[.int .i64 a.rank, .slice a.pa a.preds.length a.pcap, .string a.target, .int .i64 a.ap, .int .i64 a.as_, .int .i64 a.dp, .int .i64 a.dt, .int .i64 a.mp, .string a.mirror, .int .i64 a.sample] 60)).alloc (.cells #[.int .i64 b.rank, .slice b.pa b.preds.length b.pcap, .string b.target, .int .i64 b.ap, .int .i64 b.as_, .int .i64 b.dp, .int .i64 b.dt, .int .i64 b.mp, .string b.mirror, .int .i64 b.sample] 60)) (W.heap.size + 1) #[.int .i64 b.rank, .slice b.pa b.preds.length b.pcap, .string b.target, .int .i64 b.ap, .int .i64 b.as_, .int .i64 b.dp, .int .i64 b.dt, .int .i64 b.mp, .string b.mirror, .int .i64 b.sample] 60) := hid (Blk.new' _ _ _ (by simp))
  go_enter Try.func56, Try.ntmps56
  go_wp2_with fail
  refine (HP.out _ HB1.out).mono ?_
  rintro e w2 ⟨rfl, hb2⟩
  have HB2 := hid (HB1.out.trans (hb2.mono HB1.out.size))
  have hka := HKA.out.below hb2 HKA.out.lt
  have hkb := HKB.out.below hb2 HKB.out.lt
  have hla := hka.lt
  have hlb := hkb.lt
  have c0 : w2.cell? ⟨W.heap.size, 0, none⟩ = some (.int .i64 a.rank) := hka.cell 0
  have c1 : w2.cell? ⟨W.heap.size, 1, none⟩ = some (.slice a.pa a.preds.length a.pcap) := hka.cell 1
  have c2 : w2.cell? ⟨W.heap.size, 2, none⟩ = some (.string a.target) := hka.cell 2
  have c3 : w2.cell? ⟨W.heap.size, 3, none⟩ = some (.int .i64 a.ap) := hka.cell 3
  have c4 : w2.cell? ⟨W.heap.size, 4, none⟩ = some (.int .i64 a.as_) := hka.cell 4
  have c5 : w2.cell? ⟨W.heap.size, 5, none⟩ = some (.int .i64 a.dp) := hka.cell 5
  have c6 : w2.cell? ⟨W.heap.size, 6, none⟩ = some (.int .i64 a.dt) := hka.cell 6
  have c7 : w2.cell? ⟨W.heap.size, 7, none⟩ = some (.int .i64 a.mp) := hka.cell 7
  have c8 : w2.cell? ⟨W.heap.size, 8, none⟩ = some (.string a.mirror) := hka.cell 8
  have c9 : w2.cell? ⟨W.heap.size, 9, none⟩ = some (.int .i64 a.sample) := hka.cell 9
  have d0 : w2.cell? ⟨W.heap.size + 1, 0, none⟩ = some (.int .i64 b.rank) := hkb.cell 0
  have d1 : w2.cell? ⟨W.heap.size + 1, 1, none⟩ = some (.slice b.pa b.preds.length b.pcap) := hkb.cell 1
  have d2 : w2.cell? ⟨W.heap.size + 1, 2, none⟩ = some (.string b.target) := hkb.cell 2
  have d3 : w2.cell? ⟨W.heap.size + 1, 3, none⟩ = some (.int .i64 b.ap) := hkb.cell 3
  have d4 : w2.cell? ⟨W.heap.size + 1, 4, none⟩ = some (.int .i64 b.as_) := hkb.cell 4
  have d5 : w2.cell? ⟨W.heap.size + 1, 5, none⟩ = some (.int .i64 b.dp) := hkb.cell 5
  have d6 : w2.cell? ⟨W.heap.size + 1, 6, none⟩ = some (.int .i64 b.dt) := hkb.cell 6
  have d7 : w2.cell? ⟨W.heap.size + 1, 7, none⟩ = some (.int .i64 b.mp) := hkb.cell 7
  have d8 : w2.cell? ⟨W.heap.size + 1, 8, none⟩ = some (.string b.mirror) := hkb.cell 8
  have d9 : w2.cell? ⟨W.heap.size + 1, 9, none⟩ = some (.int .i64 b.sample) := hkb.cell 9
  clear hka hkb
  clear hb2
  go_wp2_with fail
  go_ret
  exact ⟨rfl, HB2.out⟩
set_option maxRecDepth 100000 in
set_option maxHeartbeats 2000000 in
theorem one_6 (a b : Rl) (W : World) (HP : Hid (∀ w', Below W.heap.size W w' → Calls Try.prog 111 #[.slice a.pa a.preds.length a.pcap, .slice b.pa b.preds.length b.pcap] w' fun e w'' => e = .returned (.bool true) ∧ Below w'.heap.size w' w'')) (g0 : (a.rank == b.rank) = true) (g2 : (a.target.toList == b.target.toList) = true) (g3 : (a.ap == b.ap) = true) (g4 : (a.as_ == b.as_) = true) (g5 : (a.dp == b.dp) = true) (g6 : (a.dt == b.dt) = false) : Calls Try.prog 56 #[.agg #[.int .i64 a.rank, .slice a.pa a.preds.length a.pcap, .string a.target, .int .i64 a.ap, .int .i64 a.as_, .int .i64 a.dp, .int .i64 a.dt, .int .i64 a.mp, .string a.mirror, .int .i64 a.sample], .agg #[.int .i64 b.rank, .slice b.pa b.preds.length b.pcap, .string b.target, .int .i64 b.ap, .int .i64 b.as_, .int .i64 b.dp, .int .i64 b.dt, .int .i64 b.mp, .string b.mirror, .int .i64 b.sample]] W fun e w' => e = .returned (.bool false) ∧ Below W.heap.size W w' := by
  have HB1 : Hid (Below W.heap.size W ((W.alloc (.cells #[.int .i64 a.rank, .slice a.pa a.preds.length a.pcap, .string a.target, .int .i64 a.ap, .int .i64 a.as_, .int .i64 a.dp, .int .i64 a.dt, .int .i64 a.mp, .string a.mirror, .int .i64 a.sample] 60)).alloc (.cells #[.int .i64 b.rank, .slice b.pa b.preds.length b.pcap, .string b.target, .int .i64 b.ap, .int .i64 b.as_, .int .i64 b.dp, .int .i64 b.dt, .int .i64 b.mp, .string b.mirror, .int .i64 b.sample] 60))) := by show Below _ _ _; go_grown
  have HKA : Hid (Blk ((W.alloc (.cells #[.int .i64 a.rank, .slice a.pa a.preds.length a.pcap, .string a.target, .int .i64 a.ap, .int .i64 a.as_, .int .i64 a.dp, .int .i64 a.dt, .int .i64 a.mp, .string a.mirror, .int .i64 a.sample] 60)).alloc (.cells #[.int .i64 b.rank, .slice b.pa b.preds.length b.pcap, .string b.target, .int .i64 b.ap, .int .i64 b.as_, .int .i64 b.dp, .int .i64 b.dt, .int .i64 b.mp, .string b.mirror, .int .i64 b.sample] 60)) W.heap.size #[.int .i64 a.rank, .slice a.pa a.preds.length a.pcap, .string a.target, .int .i64 a.ap, .int .i64 a.as_, .int .i64 a.dp, .int .i64 a.dt, .int .i64 a.mp, .string a.mirror, .int .i64 a.sample] 60) := hid ((Blk.new _ _ _).alloc _)
  have HKB : Hid (Blk ((W.alloc (.cells #[.int .i64 a.rank, .slice a.pa a.preds.length a.pcap, .string a.target, .int .i64 a.ap, .int .i64 a.as_, .int .i64 a.dp, .int .i64 a.dt, .int .i64 a.mp, .string a.mirror, .int .i64 a.sample] 60)).alloc (.cells #[.int .i64 b.rank, .slice b.pa b.preds.length b.pcap, .string b.target, .int .i64 b.ap, .int .i64 b.as_, .int .i64 b.dp, .int .i64 b.dt, .int .i64 b.mp, .string b.mirror, .int .i64 b.sample] 60)) (W.heap.size + 1) #[.int .i64 b.rank, .slice b.pa b.preds.length b.pcap, .string b.target, .int .i64 b.ap, .int .i64 b.as_, .int .i64 b.dp, .int .i64 b.dt, .int .i64 b.mp, .string b.mirror, .int .i64 b.sample] 60) := hid (Blk.new' _ _ _ (by simp))
  go_enter Try.func56, Try.ntmps56
  go_wp2_with fail
  refine (HP.out _ HB1.out).mono ?_
  rintro e w2 ⟨rfl, hb2⟩
  have HB2 := hid (HB1.out.trans (hb2.mono HB1.out.size))
  have hka := HKA.out.below hb2 HKA.out.lt
  have hkb := HKB.out.below hb2 HKB.out.lt
  have hla := hka.lt
  have hlb := hkb.lt
  have c0 : w2.cell? ⟨W.heap.size, 0, none⟩ = some (.int .i64 a.rank) := hka.cell 0
  have c1 : w2.cell? ⟨W.heap.size, 1, none⟩ = some (.slice a.pa a.preds.length a.pcap) := hka.cell 1
  have c2 : w2.cell? ⟨W.heap.size, 2, none⟩ = some (.string a.target) := hka.cell 2
  have c3 : w2.cell? ⟨W.heap.size, 3, none⟩ = some (.int .i64 a.ap) := hka.cell 3
  have c4 : w2.cell? ⟨W.heap.size, 4, none⟩ = some (.int .i64 a.as_) := hka.cell 4
  have c5 : w2.cell? ⟨W.heap.size, 5, none⟩ = some (.int .i64 a.dp) := hka.cell 5
  have c6 : w2.cell? ⟨W.heap.size, 6, none⟩ = some (.int .i64 a.dt) := hka.cell 6
  have c7 : w2.cell? ⟨W.heap.size, 7, none⟩ = some (.int .i64 a.mp) := hka.cell 7
  have c8 : w2.cell? ⟨W.heap.size, 8, none⟩ = some (.string a.mirror) := hka.cell 8
  have c9 : w2.cell? ⟨W.heap.size, 9, none⟩ = some (.int .i64 a.sample) := hka.cell 9
  have d0 : w2.cell? ⟨W.heap.size + 1, 0, none⟩ = some (.int .i64 b.rank) := hkb.cell 0
  have d1 : w2.cell? ⟨W.heap.size + 1, 1, none⟩ = some (.slice b.pa b.preds.length b.pcap) := hkb.cell 1
  have d2 : w2.cell? ⟨W.heap.size + 1, 2, none⟩ = some (.string b.target) := hkb.cell 2
  have d3 : w2.cell? ⟨W.heap.size + 1, 3, none⟩ = some (.int .i64 b.ap) := hkb.cell 3
  have d4 : w2.cell? ⟨W.heap.size + 1, 4, none⟩ = some (.int .i64 b.as_) := hkb.cell 4
  have d5 : w2.cell? ⟨W.heap.size + 1, 5, none⟩ = some (.int .i64 b.dp) := hkb.cell 5
  have d6 : w2.cell? ⟨W.heap.size + 1, 6, none⟩ = some (.int .i64 b.dt) := hkb.cell 6
  have d7 : w2.cell? ⟨W.heap.size + 1, 7, none⟩ = some (.int .i64 b.mp) := hkb.cell 7
  have d8 : w2.cell? ⟨W.heap.size + 1, 8, none⟩ = some (.string b.mirror) := hkb.cell 8
  have d9 : w2.cell? ⟨W.heap.size + 1, 9, none⟩ = some (.int .i64 b.sample) := hkb.cell 9
  clear hka hkb
  clear hb2
  go_wp2_with fail
  go_ret
  exact ⟨rfl, HB2.out⟩
set_option maxRecDepth 100000 in
set_option maxHeartbeats 2000000 in
theorem one_7 (a b : Rl) (W : World) (HP : Hid (∀ w', Below W.heap.size W w' → Calls Try.prog 111 #[.slice a.pa a.preds.length a.pcap, .slice b.pa b.preds.length b.pcap] w' fun e w'' => e = .returned (.bool true) ∧ Below w'.heap.size w' w'')) (g0 : (a.rank == b.rank) = true) (g2 : (a.target.toList == b.target.toList) = true) (g3 : (a.ap == b.ap) = true) (g4 : (a.as_ == b.as_) = true) (g5 : (a.dp == b.dp) = true) (g6 : (a.dt == b.dt) = true) (g7 : (a.mp == b.mp) = false) : Calls Try.prog 56 #[.agg #[.int .i64 a.rank, .slice a.pa a.preds.length a.pcap, .string a.target, .int .i64 a.ap, .int .i64 a.as_, .int .i64 a.dp, .int .i64 a.dt, .int .i64 a.mp, .string a.mirror, .int .i64 a.sample], .agg #[.int .i64 b.rank, .slice b.pa b.preds.length b.pcap, .string b.target, .int .i64 b.ap, .int .i64 b.as_, .int .i64 b.dp, .int .i64 b.dt, .int .i64 b.mp, .string b.mirror, .int .i64 b.sample]] W fun e w' => e = .returned (.bool false) ∧ Below W.heap.size W w' := by
  have HB1 : Hid (Below W.heap.size W ((W.alloc (.cells #[.int .i64 a.rank, .slice a.pa a.preds.length a.pcap, .string a.target, .int .i64 a.ap, .int .i64 a.as_, .int .i64 a.dp, .int .i64 a.dt, .int .i64 a.mp, .string a.mirror, .int .i64 a.sample] 60)).alloc (.cells #[.int .i64 b.rank, .slice b.pa b.preds.length b.pcap, .string b.target, .int .i64 b.ap, .int .i64 b.as_, .int .i64 b.dp, .int .i64 b.dt, .int .i64 b.mp, .string b.mirror, .int .i64 b.sample] 60))) := by show Below _ _ _; go_grown
  have HKA : Hid (Blk ((W.alloc (.cells #[.int .i64 a.rank, .slice a.pa a.preds.length a.pcap, .string a.target, .int .i64 a.ap, .int .i64 a.as_, .int .i64 a.dp, .int .i64 a.dt, .int .i64 a.mp, .string a.mirror, .int .i64 a.sample] 60)).alloc (.cells #[.int .i64 b.rank, .slice b.pa b.preds.length b.pcap, .string b.target, .int .i64 b.ap, .int .i64 b.as_, .int .i64 b.dp, .int .i64 b.dt, .int .i64 b.mp, .string b.mirror, .int .i64 b.sample] 60)) W.heap.size #[.int .i64 a.rank, .slice a.pa a.preds.length a.pcap, .string a.target, .int .i64 a.ap, .int .i64 a.as_, .int .i64 a.dp, .int .i64 a.dt, .int .i64 a.mp, .string a.mirror, .int .i64 a.sample] 60) := hid ((Blk.new _ _ _).alloc _)
  have HKB : Hid (Blk ((W.alloc (.cells #[.int .i64 a.rank, .slice a.pa a.preds.length a.pcap, .string a.target, .int .i64 a.ap, .int .i64 a.as_, .int .i64 a.dp, .int .i64 a.dt, .int .i64 a.mp, .string a.mirror, .int .i64 a.sample] 60)).alloc (.cells #[.int .i64 b.rank, .slice b.pa b.preds.length b.pcap, .string b.target, .int .i64 b.ap, .int .i64 b.as_, .int .i64 b.dp, .int .i64 b.dt, .int .i64 b.mp, .string b.mirror, .int .i64 b.sample] 60)) (W.heap.size + 1) #[.int .i64 b.rank, .slice b.pa b.preds.length b.pcap, .string b.target, .int .i64 b.ap, .int .i64 b.as_, .int .i64 b.dp, .int .i64 b.dt, .int .i64 b.mp, .string b.mirror, .int .i64 b.sample] 60) := hid (Blk.new' _ _ _ (by simp))
  go_enter Try.func56, Try.ntmps56
  go_wp2_with fail
  refine (HP.out _ HB1.out).mono ?_
  rintro e w2 ⟨rfl, hb2⟩
  have HB2 := hid (HB1.out.trans (hb2.mono HB1.out.size))
  have hka := HKA.out.below hb2 HKA.out.lt
  have hkb := HKB.out.below hb2 HKB.out.lt
  have hla := hka.lt
  have hlb := hkb.lt
  have c0 : w2.cell? ⟨W.heap.size, 0, none⟩ = some (.int .i64 a.rank) := hka.cell 0
  have c1 : w2.cell? ⟨W.heap.size, 1, none⟩ = some (.slice a.pa a.preds.length a.pcap) := hka.cell 1
  have c2 : w2.cell? ⟨W.heap.size, 2, none⟩ = some (.string a.target) := hka.cell 2
  have c3 : w2.cell? ⟨W.heap.size, 3, none⟩ = some (.int .i64 a.ap) := hka.cell 3
  have c4 : w2.cell? ⟨W.heap.size, 4, none⟩ = some (.int .i64 a.as_) := hka.cell 4
  have c5 : w2.cell? ⟨W.heap.size, 5, none⟩ = some (.int .i64 a.dp) := hka.cell 5
  have c6 : w2.cell? ⟨W.heap.size, 6, none⟩ = some (.int .i64 a.dt) := hka.cell 6
  have c7 : w2.cell? ⟨W.heap.size, 7, none⟩ = some (.int .i64 a.mp) := hka.cell 7
  have c8 : w2.cell? ⟨W.heap.size, 8, none⟩ = some (.string a.mirror) := hka.cell 8
  have c9 : w2.cell? ⟨W.heap.size, 9, none⟩ = some (.int .i64 a.sample) := hka.cell 9
  have d0 : w2.cell? ⟨W.heap.size + 1, 0, none⟩ = some (.int .i64 b.rank) := hkb.cell 0
  have d1 : w2.cell? ⟨W.heap.size + 1, 1, none⟩ = some (.slice b.pa b.preds.length b.pcap) := hkb.cell 1
  have d2 : w2.cell? ⟨W.heap.size + 1, 2, none⟩ = some (.string b.target) := hkb.cell 2
  have d3 : w2.cell? ⟨W.heap.size + 1, 3, none⟩ = some (.int .i64 b.ap) := hkb.cell 3
  have d4 : w2.cell? ⟨W.heap.size + 1, 4, none⟩ = some (.int .i64 b.as_) := hkb.cell 4
  have d5 : w2.cell? ⟨W.heap.size + 1, 5, none⟩ = some (.int .i64 b.dp) := hkb.cell 5
  have d6 : w2.cell? ⟨W.heap.size + 1, 6, none⟩ = some (.int .i64 b.dt) := hkb.cell 6
  have d7 : w2.cell? ⟨W.heap.size + 1, 7, none⟩ = some (.int .i64 b.mp) := hkb.cell 7
  have d8 : w2.cell? ⟨W.heap.size + 1, 8, none⟩ = some (.string b.mirror) := hkb.cell 8
  have d9 : w2.cell? ⟨W.heap.size + 1, 9, none⟩ = some (.int .i64 b.sample) := hkb.cell 9
  clear hka hkb
  clear hb2
  go_wp2_with fail
  go_ret
  exact ⟨rfl, HB2.out⟩
end C12
end Go.Proofs.Ytmmmaldpalhjeaa
namespace Go.Proofs.Ytmmmaldpalhjeaa
open Go.RowKit Go.Peri
namespace C12
set_option maxRecDepth 100000 in
set_option maxHeartbeats 2000000 in
theorem one_8 (a b : Rl) (W : World) (HP : Hid (∀ w', Below W.heap.size W w' → Calls Try.prog 111 #[.slice a.pa a.preds.length a.pcap, .slice b.pa b.preds.length b.pcap] w' fun e w'' => e = .returned (.bool true) ∧ Below w'.heap.size w' w'')) (g0 : (a.rank == b.rank) = true) (g2 : (a.target.toList == b.target.toList) = true) (g3 : (a.ap == b.ap) = true) (g4 : (a.as_ == b.as_) = true) (g5 : (a.dp == b.dp) = true) (g6 : (a.dt == b.dt) = true) (g7 : (a.mp == b.mp) = true) (g8 : (a.mirror.toList == b.mirror.toList) = false) : Calls Try.prog 56 #[.agg #[.int .i64 a.rank, .slice a.pa a.preds.length a.pcap, .string a.target, .int .i64 a.ap, .int .i64 a.as_, .int .i64 a.dp, .int .i64 a.dt, .int .i64 a.mp, .string a.mirror, .int .i64 a.sample], .agg #[.int .i64 b.rank, .slice b.pa b.preds.length b.pcap, .string b.target, .int .i64 b.ap, .int .i64 b.as_, .int .i64 b.dp, .int .i64 b.dt, .int .i64 b.mp, .string b.mirror, .int .i64 b.sample]] W fun e w' => e = .returned (.bool false) ∧ Below W.heap.size W w' := by
  have HB1 : Hid (Below W.heap.size W ((W.alloc (.cells #[.int .i64 a.rank, .slice a.pa a.preds.length a.pcap, .string a.target, .int .i64 a.ap, .int .i64 a.as_, .int .i64 a.dp, .int .i64 a.dt, .int .i64 a.mp, .string a.mirror, .int .i64 a.sample] 60)).alloc (.cells #[.int .i64 b.rank, .slice b.pa b.preds.length b.pcap, .string b.target, .int .i64 b.ap, .int .i64 b.as_, .int .i64 b.dp, .int .i64 b.dt, .int .i64 b.mp, .string b.mirror, .int .i64 b.sample] 60))) := by show Below _ _ _; go_grown
  have HKA : Hid (Blk ((W.alloc (.cells #[.int .i64 a.rank, .slice a.pa a.preds.length a.pcap, .string a.target, .int .i64 a.ap, .int .i64 a.as_, .int .i64 a.dp, .int .i64 a.dt, .int .i64 a.mp, .string a.mirror, .int .i64 a.sample] 60)).alloc (.cells #[.int .i64 b.rank, .slice b.pa b.preds.length b.pcap, .string b.target, .int .i64 b.ap, .int .i64 b.as_, .int .i64 b.dp, .int .i64 b.dt, .int .i64 b.mp, .string b.mirror, .int .i64 b.sample] 60)) W.heap.size #[.int .i64 a.rank, .slice a.pa a.preds.length a.pcap, .string a.target, .int .i64 a.ap, .int .i64 a.as_, .int .i64 a.dp, .int .i64 a.dt, .int .i64 a.mp, .string a.mirror, .int .i64 a.sample] 60) := hid ((Blk.new _ _ _).alloc _)
  have HKB : Hid (Blk ((W.alloc (.cells #[.int .i64 a.rank, .slice a.pa a.preds.length a.pcap, .string a.target, .int .i64 a.ap, .int .i64 a.as_, .int .i64 a.dp, .int .i64 a.dt, .int .i64 a.mp, .string a.mirror, .int .i64 a.sample] 60)).alloc (.cells #[.int .i64 b.rank, .slice b.pa b.preds.length b.pcap, .string b.target, .int .i64 b.ap, .int .i64 b.as_, .int .i64 b.dp, .int .i64 b.dt, .int .i64 b.mp, .string b.mirror, .int .i64 b.sample] 60)) (W.heap.size + 1) #[.int .i64 b.rank, .slice b.pa b.preds.length b.pcap, .string b.target, .int .i64 b.ap, .int .i64 b.as_, .int .i64 b.dp, .int .i64 b.dt, .int .i64 b.mp, .string b.mirror, .int .i64 b.sample] 60) := hid (Blk.new' _ _ _ (by simp))
  go_enter Try.func56, Try.ntmps56
  go_wp2_with fail
  refine (HP.out _ HB1.out).mono ?_
  rintro e w2 ⟨rfl, hb2⟩
  have HB2 := hid (HB1.out.trans (hb2.mono HB1.out.size))
  have hka := HKA.out.below hb2 HKA.out.lt
  have hkb := HKB.out.below hb2 HKB.out.lt
  have hla := hka.lt
  have hlb := hkb.lt
  have c0 : w2.cell? ⟨W.heap.size, 0, none⟩ = some (.int .i64 a.rank) := hka.cell 0
  have c1 : w2.cell? ⟨W.heap.size, 1, none⟩ = some (.slice a.pa a.preds.length a.pcap) := hka.cell 1
  have c2 : w2.cell? ⟨W.heap.size, 2, none⟩ = some (.string a.target) := hka.cell 2
  have c3 : w2.cell? ⟨W.heap.size, 3, none⟩ = some (.int .i64 a.ap) := hka.cell 3
  have c4 : w2.cell? ⟨W.heap.size, 4, none⟩ = some (.int .i64 a.as_) := hka.cell 4
  have c5 : w2.cell? ⟨W.heap.size, 5, none⟩ = some (.int .i64 a.dp) := hka.cell 5
  have c6 : w2.cell? ⟨W.heap.size, 6, none⟩ = some (.int .i64 a.dt) := hka.cell 6
  have c7 : w2.cell? ⟨W.heap.size, 7, none⟩ = some (.int .i64 a.mp) := hka.cell 7
  have c8 : w2.cell? ⟨W.heap.size, 8, none⟩ = some (.string a.mirror) := hka.cell 8
  have c9 : w2.cell? ⟨W.heap.size, 9, none⟩ = some (.int .i64 a.sample) := hka.cell 9
  have d0 : w2.cell? ⟨W.heap.size + 1, 0, none⟩ = some (.int .i64 b.rank) := hkb.cell 0
  have d1 : w2.cell? ⟨W.heap.size + 1, 1, none⟩ = some (.slice b.pa b.preds.length b.pcap) := hkb.cell 1
  have d2 : w2.cell? ⟨W.heap.size + 1, 2, none⟩ = some (.string b.target) := hkb.cell 2
  have d3 : w2.cell? ⟨W.heap.size + 1, 3, none⟩ = some (.int .i64 b.ap) := hkb.cell 3
  have d4 : w2.cell? ⟨W.heap.size + 1, 4, none⟩ = some (.int .i64 b.as_) := hkb.cell 4
  have d5 : w2.cell? ⟨W.heap.size + 1, 5, none⟩ = some (.int .i64 b.dp) := hkb.cell 5
  have d6 : w2.cell? ⟨W.heap.size + 1, 6, none⟩ = some (.int .i64 b.dt) := hkb.cell 6
  have d7 : w2.cell? ⟨W.heap.size + 1, 7, none⟩ = some (.int .i64 b.mp) := hkb.cell 7
  have d8 : w2.cell? ⟨W.heap.size + 1, 8, none⟩ = some (.string b.mirror) := hkb.cell 8
  have d9 : w2.cell? ⟨W.heap.size + 1, 9, none⟩ = some (.int .i64 b.sample) := hkb.cell 9
  clear hka hkb
  clear hb2
  go_wp2_with fail
  go_ret
  exact ⟨rfl, HB2.out⟩
set_option maxRecDepth 100000 in
set_option maxHeartbeats 2000000 in
theorem one_9 (a b : Rl) (W : World) (HP : Hid (∀ w', Below W.heap.size W w' → Calls Try.prog 111 #[.slice a.pa a.preds.length a.pcap, .slice b.pa b.preds.length b.pcap] w' fun e w'' => e = .returned (.bool true) ∧ Below w'.heap.size w' w'')) (g0 : (a.rank == b.rank) = true) (g2 : (a.target.toList == b.target.toList) = true) (g3 : (a.ap == b.ap) = true) (g4 : (a.as_ == b.as_) = true) (g5 : (a.dp == b.dp) = true) (g6 : (a.dt == b.dt) = true) (g7 : (a.mp == b.mp) = true) (g8 : (a.mirror.toList == b.mirror.toList) = true) (g9 : (a.sample == b.sample) = false) : Calls Try.prog 56 #[.agg #[.int .i64 a.rank, .slice a.pa a.preds.length a.pcap, .string a.target, .int .i64 a.ap, .int .i64 a.as_, .int .i64 a.dp, .int .i64 a.dt, .int .i64 a.mp, .string a.mirror, .int .i64 a.sample], .agg #[.int .i64 b.rank, .slice b.pa b.preds.length b.pcap, .string b.target, .int .i64 b.ap, .int .i64 b.as_, .int .i64 b.dp, .int .i64 b.dt, .int .i64 b.mp, .string b.mirror, .int .i64 b.sample]] W fun e w' => e = .returned (.bool false) ∧ Below W.heap.size W w' := by
  have HB1 : Hid (Below W.heap.size W ((W.alloc (.cells #[.int .i64 a.rank, .slice a.pa a.preds.length a.pcap, .string a.target, .int .i64 a.ap, .int .i64 a.as_, .int .i64 a.dp, .int .i64 a.dt, .int .i64 a.mp, .string a.mirror, .int .i64 a.sample] 60)).alloc (.cells #[.int .i64 b.rank, .slice b.pa b.preds.length b.pcap, .string b.target, .int .i64 b.ap, .int .i64 b.as_, .int .i64 b.dp, .int .i64 b.dt, .int .i64 b.mp, .string b.mirror, .int .i64 b.sample] 60))) := by show Below _ _ _; go_grown
  have HKA : Hid (Blk ((W.alloc (.cells #[.int .i64 a.rank, .slice a.pa a.preds.length a.pcap, .string a.target, .int .i64 a.ap, .int .i64 a.as_, .int .i64 a.dp, .int .i64 a.dt, .int .i64 a.mp, .string a.mirror, .int .i64 a.sample] 60)).alloc (.cells #[.int .i64 b.rank, .slice b.pa b.preds.length b.pcap, .string b.target, .int .i64 b.ap, .int .i64 b.as_, .int .i64 b.dp, .int .i64 b.dt, .int .i64 b.mp, .string b.mirror, .int .i64 b.sample] 60)) W.heap.size #[.int .i64 a.rank, .slice a.pa a.preds.length a.pcap, .string a.target, .int .i64 a.ap, .int .i64 a.as_, .int .i64 a.dp, .int .i64 a.dt, .int .i64 a.mp, .string a.mirror, .int .i64 a.sample] 60) := hid ((Blk.new _ _ _).alloc _)
  have HKB : Hid (Blk ((W.alloc (.cells #[.int .i64 a.rank, .slice a.pa a.preds.length a.pcap, .string a.target, .int .i64 a.ap, .int .i64 a.as_, .int .i64 a.dp, .int .i64 a.dt, .int .i64 a.mp, .string a.mirror, .int .i64 a.sample] 60)).alloc (.cells #[.int .i64 b.rank, .slice b.pa b.preds.length b.pcap, .string b.target, .int .i64 b.ap, .int .i64 b.as_, .int .i64 b.dp, .int .i64 b.dt, .int .i64 b.mp, .string b.mirror, .int .i64 b.sample] 60)) (W.heap.size + 1) #[.int .i64 b.rank, .slice b.pa b.preds.length b.pcap, .string b.target, .int .i64 b.ap, .int .i64 b.as_, .int .i64 b.dp, .int .i64 b.dt, .int .i64 b.mp, .string b.mirror, .int .i64 b.sample] 60) := hid (Blk.new' _ _ _ (by simp))
  go_enter Try.func56, Try.ntmps56
  go_wp2_with fail
  refine (HP.out _ HB1.out).mono ?_
  rintro e w2 ⟨rfl, hb2⟩
  have HB2 := hid (HB1.out.trans (hb2.mono HB1.out.size))
  have hka := HKA.out.below hb2 HKA.out.lt
  have hkb := HKB.out.below hb2 HKB.out.lt
  have hla := hka.lt
  have hlb := hkb.lt
  have c0 : w2.cell? ⟨W.heap.size, 0, none⟩ = some (.int .i64 a.rank) := hka.cell 0
  have c1 : w2.cell? ⟨W.heap.size, 1, none⟩ = some (.slice a.pa a.preds.length a.pcap) := hka.cell 1
  have c2 : w2.cell? ⟨W.heap.size, 2, none⟩ = some (.string a.target) := hka.cell 2
  have c3 : w2.cell? ⟨W.heap.size, 3, none⟩ = some (.int .i64 a.ap) := hka.cell 3
  have c4 : w2.cell? ⟨W.heap.size, 4, none⟩ = some (.int .i64 a.as_) := hka.cell 4
  have c5 : w2.cell? ⟨W.heap.size, 5, none⟩ = some (.int .i64 a.dp) := hka.cell 5
  have c6 : w2.cell? ⟨W.heap.size, 6, none⟩ = some (.int .i64 a.dt) := hka.cell 6
  have c7 : w2.cell? ⟨W.heap.size, 7, none⟩ = some (.int .i64 a.mp) := hka.cell 7
  have c8 : w2.cell? ⟨W.heap.size, 8, none⟩ = some (.string a.mirror) := hka.cell 8
  have c9 : w2.cell? ⟨W.heap.size, 9, none⟩ = some (.int .i64 a.sample) := hka.cell 9
  have d0 : w2.cell? ⟨W.heap.size + 1, 0, none⟩ = some (.int .i64 b.rank) := hkb.cell 0
  have d1 : w2.cell? ⟨W.heap.size + 1, 1, none⟩ = some (.slice b.pa b.preds.length b.pcap) := hkb.cell 1
  have d2 : w2.cell? ⟨W.heap.size + 1, 2, none⟩ = some (.string b.target) := hkb.cell 2
  have d3 : w2.cell? ⟨W.heap.size + 1, 3, none⟩ = some (.int .i64 b.ap) := hkb.cell 3
  have d4 : w2.cell? ⟨W.heap.size + 1, 4, none⟩ = some (.int .i64 b.as_) := hkb.cell 4
  have d5 : w2.cell? ⟨W.heap.size + 1, 5, none⟩ = some (.int .i64 b.dp) := hkb.cell 5
  have d6 : w2.cell? ⟨W.heap.size + 1, 6, none⟩ = some (.int .i64 b.dt) := hkb.cell 6
  have d7 : w2.cell? ⟨W.heap.size + 1, 7, none⟩ = some (.int .i64 b.mp) := hkb.cell 7
  have d8 : w2.cell? ⟨W.heap.size + 1, 8, none⟩ = some (.string b.mirror) := hkb.cell 8
  have d9 : w2.cell? ⟨W.heap.size + 1, 9, none⟩ = some (.int .i64 b.sample) := hkb.cell 9
  clear hka hkb
  clear hb2
  go_wp2_with fail
  go_ret
  exact ⟨rfl, HB2.out⟩
set_option maxRecDepth 100000 in
set_option maxHeartbeats 2000000 in
theorem one_10 (a b : Rl) (W : World) (HP : Hid (∀ w', Below W.heap.size W w' → Calls Try.prog 111 #[.slice a.pa a.preds.length a.pcap, .slice b.pa b.preds.length b.pcap] w' fun e w'' => e = .returned (.bool true) ∧ Below w'.heap.size w' w'')) (g0 : (a.rank == b.rank) = true) (g2 : (a.target.toList == b.target.toList) = true) (g3 : (a.ap == b.ap) = true) (g4 : (a.as_ == b.as_) = true) (g5 : (a.dp == b.dp) = true) (g6 : (a.dt == b.dt) = true) (g7 : (a.mp == b.mp) = true) (g8 : (a.mirror.toList == b.mirror.toList) = true) (g9 : (a.sample == b.sample) = true) : Calls Try.prog 56 #[.agg #[.int .i64 a.rank, .slice a.pa a.preds.length a.pcap, .string a.target, .int .i64 a.ap, .int .i64 a.as_, .int .i64 a.dp, .int .i64 a.dt, .int .i64 a.mp, .string a.mirror, .int .i64 a.sample], .agg #[.int .i64 b.rank, .slice b.pa b.preds.length b.pcap, .string b.target, .int .i64 b.ap, .int .i64 b.as_, .int .i64 b.dp, .int .i64 b.dt, .int .i64 b.mp, .string b.mirror, .int .i64 b.sample]] W fun e w' => e = .returned (.bool true) ∧ Below W.heap.size W w' := by
  have HB1 : Hid (Below W.heap.size W ((W.alloc (.cells #[.int .i64 a.rank, .slice a.pa a.preds.length a.pcap, .string a.target, .int .i64 a.ap, .int .i64 a.as_, .int .i64 a.dp, .int .i64 a.dt, .int .i64 a.mp, .string a.mirror, .int .i64 a.sample] 60)).alloc (.cells #[.int .i64 b.rank, .slice b.pa b.preds.length b.pcap, .string b.target, .int .i64 b.ap, .int .i64 b.as_, .int .i64 b.dp, .int .i64 b.dt, .int .i64 b.mp, .string b.mirror, .int .i64 b.sample] 60))) := by show Below _ _ _; go_grown
  have HKA : Hid (Blk ((W.alloc (.cells #[.int .i64 a.rank, .slice a.pa a.preds.length a.pcap, .string a.target, .int .i64 a.ap, .int .i64 a.as_, .int .i64 a.dp, .int .i64 a.dt, .int .i64 a.mp, .string a.mirror, .int .i64 a.sample] 60)).alloc (.cells #[.int .i64 b.rank, .slice b.pa b.preds.length b.pcap, .string b.target, .int .i64 b.ap, .int .i64 b.as_, .int .i64 b.dp, .int .i64 b.dt, .int .i64 b.mp, .string b.mirror, .int .i64 b.sample] 60)) W.heap.size #[.int .i64 a.rank, .slice a.pa a.preds.length a.pcap, .string a.target, .int .i64 a.ap, .int .i64 a.as_, .int .i64 a.dp, .int .i64 a.dt, .int .i64 a.mp, .string a.mirror, .int .i64 a.sample] 60) := hid ((Blk.new _ _ _).alloc _)
  have HKB : Hid (Blk ((W.alloc (.cells #[.int .i64 a.rank, .slice a.pa a.preds.length a.pcap, .string a.target, .int .i64 a.ap, .int .i64 a.as_, .int .i64 a.dp, .int .i64 a.dt, .int .i64 a.mp, .string a.mirror, .int .i64 a.sample] 60)).alloc (.cells #[.int .i64 b.rank, .slice b.pa b.preds.length b.pcap, .string b.target, .int .i64 b.ap, .int .i64 b.as_, .int .i64 b.dp, .int .i64 b.dt, .int .i64 b.mp, .string b.mirror, .int .i64 b.sample] 60)) (W.heap.size + 1) #[.int .i64 b.rank, .slice b.pa b.preds.length b.pcap, .string b.target, .int .i64 b.ap, .int .i64 b.as_, .int .i64 b.dp, .int .i64 b.dt, .int .i64 b.mp, .string b.mirror, .int .i64 b.sample] 60) := hid (Blk.new' _ _ _ (by simp))
  go_enter Try.func56, Try.ntmps56
  go_wp2_with fail
  refine (HP.out _ HB1.out).mono ?_
  rintro e w2 ⟨rfl, hb2⟩
  have HB2 := hid (HB1.out.trans (hb2.mono HB1.out.size))
  have hka := HKA.out.below hb2 HKA.out.lt
  have hkb := HKB.out.below hb2 HKB.out.lt
  have hla := hka.lt
  have hlb := hkb.lt
  have c0 : w2.cell? ⟨W.heap.size, 0, none⟩ = some (.int .i64 a.rank) := hka.cell 0
  have c1 : w2.cell? ⟨W.heap.size, 1, none⟩ = some (.slice a.pa a.preds.length a.pcap) := hka.cell 1
  have c2 : w2.cell? ⟨W.heap.size, 2, none⟩ = some (.string a.target) := hka.cell 2
  have c3 : w2.cell? ⟨W.heap.size, 3, none⟩ = some (.int .i64 a.ap) := hka.cell 3
  have c4 : w2.cell? ⟨W.heap.size, 4, none⟩ = some (.int .i64 a.as_) := hka.cell 4
  have c5 : w2.cell? ⟨W.heap.size, 5, none⟩ = some (.int .i64 a.dp) := hka.cell 5
  have c6 : w2.cell? ⟨W.heap.size, 6, none⟩ = some (.int .i64 a.dt) := hka.cell 6
  have c7 : w2.cell? ⟨W.heap.size, 7, none⟩ = some (.int .i64 a.mp) := hka.cell 7
  have c8 : w2.cell? ⟨W.heap.size, 8, none⟩ = some (.string a.mirror) := hka.cell 8
  have c9 : w2.cell? ⟨W.heap.size, 9, none⟩ = some (.int .i64 a.sample) := hka.cell 9
  have d0 : w2.cell? ⟨W.heap.size + 1, 0, none⟩ = some (.int .i64 b.rank) := hkb.cell 0
  have d1 : w2.cell? ⟨W.heap.size + 1, 1, none⟩ = some (.slice b.pa b.preds.length b.pcap) := hkb.cell 1
  have d2 : w2.cell? ⟨W.heap.size + 1, 2, none⟩ = some (.string b.target) := hkb.cell 2
  have d3 : w2.cell? ⟨W.heap.size + 1, 3, none⟩ = some (.int .i64 b.ap) := hkb.cell 3
  have d4 : w2.cell? ⟨W.heap.size + 1, 4, none⟩ = some (.int .i64 b.as_) := hkb.cell 4
  have d5 : w2.cell? ⟨W.heap.size + 1, 5, none⟩ = some (.int .i64 b.dp) := hkb.cell 5
  have d6 : w2.cell? ⟨W.heap.size + 1, 6, none⟩ = some (.int .i64 b.dt) := hkb.cell 6
  have d7 : w2.cell? ⟨W.heap.size + 1, 7, none⟩ = some (.int .i64 b.mp) := hkb.cell 7
  have d8 : w2.cell? ⟨W.heap.size + 1, 8, none⟩ = some (.string b.mirror) := hkb.cell 8
  have d9 : w2.cell? ⟨W.heap.size + 1, 9, none⟩ = some (.int .i64 b.sample) := hkb.cell 9
  clear hka hkb
  clear hb2
  go_wp2_with fail
  go_ret
  exact ⟨rfl, HB2.out⟩
end C12
end Go.Proofs.Ytmmmaldpalhjeaa
namespace Go.Peri
open Go.RowKit
instance : Inhabited Rl := ⟨⟨0, none, 0, [], ByteArray.empty, 0, 0, 0, 0, 0, ByteArray.empty, 0⟩⟩
namespace Rl
/-- A rule but for where its predicates lie. -/
def core (r : Rl) : Rl := { r with pa := none, pcap := 0 }
theorem core_eq {a b : Rl} (h : a.core = b.core) : a.rank = b.rank ∧ a.preds = b.preds ∧ a.target = b.target ∧ a.ap = b.ap ∧ a.as_ = b.as_ ∧ a.dp = b.dp ∧ a.dt = b.dt ∧ a.mp = b.mp ∧ a.mirror = b.mirror ∧ a.sample = b.sample := by
  obtain ⟨⟩ := a
  obtain ⟨⟩ := b
  simp only [core, Rl.mk.injEq] at h
  simp only []
  exact ⟨h.1, h.2.2.2.1, h.2.2.2.2.1, h.2.2.2.2.2.1, h.2.2.2.2.2.2.1, h.2.2.2.2.2.2.2.1, h.2.2.2.2.2.2.2.2.1, h.2.2.2.2.2.2.2.2.2.1, h.2.2.2.2.2.2.2.2.2.2.1, h.2.2.2.2.2.2.2.2.2.2.2⟩
theorem core_of {a b : Rl} (h0 : a.rank = b.rank) (h1 : a.preds = b.preds) (h2 : a.target = b.target) (h3 : a.ap = b.ap) (h4 : a.as_ = b.as_) (h5 : a.dp = b.dp) (h6 : a.dt = b.dt) (h7 : a.mp = b.mp) (h8 : a.mirror = b.mirror) (h9 : a.sample = b.sample) : a.core = b.core := by
  obtain ⟨⟩ := a
  obtain ⟨⟩ := b
  simp only [core, Rl.mk.injEq]
  simp only [] at h0 h1 h2 h3 h4 h5 h6 h7 h8 h9
  exact ⟨h0, trivial, trivial, h1, h2, h3, h4, h5, h6, h7, h8, h9⟩
/-- Where the predicates read. -/
def At (p : Nat → Prop) (w : World) (r : Rl) : Prop := RowsOf p Prd.enc 3 w (.slice r.pa r.preds.length r.pcap) r.preds
theorem At.imp {p q : Nat → Prop} {w : World} {r : Rl} (h : At p w r) (hpq : ∀ b, p b → q b) : At q w r := RowsOf.imp h hpq
theorem At.only {p : Nat → Prop} {S : List Nat} {w w' : World} {r : Rl} (h : At p w r) (ho : Only S w w') (hp : ∀ b, p b → b < w.heap.size ∧ b ∉ S) : At p w' r := RowsOf.only h ho hp
theorem At.below {p : Nat → Prop} {B : Nat} {w w' : World} {r : Rl} (h : At p w r) (ho : Below B w w') (hp : ∀ b, p b → b < B) : At p w' r := RowsOf.below h ho hp
theorem Wf.at {w : World} {B : Nat} {r : Rl} (h : Wf w B r) : At (· < B) w r := h.rows
/-- What is known of a rule with predicates elsewhere. -/
theorem Wf.of_core {w w' : World} {B B' : Nat} {r s : Rl} (h : Wf w B r) (hc : s.core = r.core) (ha : At (· < B') w' s) : Wf w' B' s := by
  obtain ⟨h0, h1, h2, _, _, _, _, _, h8, _⟩ := core_eq hc
  exact ⟨ha, by rw [h1]; exact h.len, by rw [h1]; exact h.preds, by rw [h0]; exact h.rank, by rw [h2]; exact h.target, by rw [h8]; exact h.mirror⟩
end Rl
section
variable {α β : Type}
/-- One cell of a flat list. -/
theorem flat_set {enc : α → List Value} {k : Nat} (hk : ∀ x, (enc x).length = k) : ∀ (l : List α) (i : Nat) (hi : i < l.length) (j : Nat) (u : Value) (x : α), j < k → enc x = (enc l[i]).set j u → (l.flatMap enc).set (i * k + j) u = (l.set i x).flatMap enc
  | y :: l, 0, _, j, u, x, hj, hx => by
    rw [Nat.zero_mul, Nat.zero_add, List.flatMap_cons, List.set_append_left _ _ (by rw [hk]; exact hj), List.set_cons_zero, List.flatMap_cons, hx]
    rfl
  | y :: l, i + 1, hi, j, u, x, hj, hx => by
    rw [List.flatMap_cons, List.set_append_right _ _ (by rw [hk, Nat.succ_mul]; omega), hk, show (i + 1) * k + j - k = i * k + j by rw [Nat.succ_mul]; omega, List.set_cons_succ, List.flatMap_cons]
    congr 1
    exact flat_set hk l i (by simpa using hi) j u x hj hx
theorem set_mid (l1 : List α) (l : List α) (k : Nat) (h1 : l1.length = k) (hk : k < l.length) (x : α) : (l1 ++ l.drop k).set k x = (l1 ++ [x]) ++ l.drop (k + 1) := by
  subst h1
  rw [List.set_append_right _ _ (Nat.le_refl _), Nat.sub_self, List.drop_eq_getElem_cons hk, List.set_cons_zero]
  simp
theorem get_mid (l1 : List α) (l : List α) (k : Nat) (h1 : l1.length = k) (hk : k < l.length) (h : k < (l1 ++ l.drop k).length) : (l1 ++ l.drop k)[k] = l[k] := by
  subst h1
  rw [List.getElem_append_right (Nat.le_refl _)]
  simp
theorem map_take_snoc (f : α → β) (l1 l : List α) (k : Nat) (hk : k < l.length) (x : α) (h : l1.map f = (l.take k).map f) (hx : f x = f l[k]) : (l1 ++ [x]).map f = (l.take (k + 1)).map f := by
  rw [List.take_succ_eq_append_getElem hk, List.map_append, List.map_append, h, List.map_singleton, List.map_singleton, hx]
end
theorem owns_at {w : World} {base : Nat} {e : TypeId} {size n : Nat} {v : Value} {xs : List Value} (h : w.ownsRow base e size v n xs) (hn : 0 < n) : ∃ g cap, v = .slice (some ⟨g, 0, none⟩) n cap ∧ base ≤ g ∧ g < w.heap.size := by
  rcases h.2 with ⟨_, h0⟩ | ⟨g, cap, cur, hv, hb, hg, _⟩
  · omega
  · exact ⟨g, cap, hv, hb, (Array.getElem?_eq_some_iff.1 hg).1⟩
theorem owns_num {w : World} {base : Nat} {e : TypeId} {size : Nat} {v : Value} {n m : Nat} {xs : List Value} (hn : n = m) (h : w.ownsRow base e size v n xs) : w.ownsRow base e size v m xs := hn ▸ h
theorem owns_le {w : World} {base base' : Nat} {e : TypeId} {size : Nat} {v : Value} {n : Nat} {xs : List Value} (h : w.ownsRow base e size v n xs) (hb : base' ≤ base) : w.ownsRow base' e size v n xs :=
  ⟨h.1, h.2.imp id fun ⟨g, cap, cur, h1, h2, h3⟩ => ⟨g, cap, cur, h1, Nat.le_trans hb h2, h3⟩⟩
end Go.Peri
