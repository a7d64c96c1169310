/- Walks of layer 11 (pred): how a request is matched by a predicate of any kind; no condition. -/
import Derived.Test.YthmopkaecbebpaaQ11
namespace Go.Proofs.Ythmopkaecbebpaa
open Go.RowKit Go.Peri
namespace C11
set_option maxRecDepth 100000 in
set_option maxHeartbeats 1000000 in
theorem pmatch1 {pp : Nat → Prop} (n v m h p b : ByteArray) (l : List Hd) (a0 : Option Addr) (cap : Nat) (r : Bool) (W : World) (_hl : RowsOf pp Hd.enc 2 W (.slice a0 l.length cap) l) (_hp : ∀ b, pp b → b < W.heap.size) (_hn : l.length ≤ 1000000) (hr : decide (m = v) = r) :
    Calls Try.prog 163 #[.agg #[.int .i64 1, .string n, .string v], .agg #[.string m, .string h, .string p, .slice a0 l.length cap, .string b]] W fun e w' => e = .returned (.bool r) ∧ Below W.heap.size W w' := by
  have HO : Hid (∀ w, Calls Try.prog 171 #[.int .i64 1] w fun e w' => ∃ a b c d : Nat, e = .returned (.tuple #[.agg #[.bool false, .bool true, .func (.func 173) #[] #[], .func (.func 176) #[] #[]], .bool true]) ∧ Below w.heap.size w w' ∧ Hid (KindsAt w' a b c d)) := hid (fun w => of1 w)
  have HC := hid (fun w => mMethod 1 n v m h p b (.slice a0 l.length cap) r w a0 l.length cap rfl hr)
  have HZ := hid ((Blk.new W #[.int .i64 1, .string n, .string v] 232).alloc (.cells #[.string m, .string h, .string p, .slice a0 l.length cap, .string b] 113))
  have HY := hid (Blk.new' (W.alloc (.cells #[.int .i64 1, .string n, .string v] 232)) #[.string m, .string h, .string p, .slice a0 l.length cap, .string b] 113 (n := W.heap.size + 1) (by simp))
  have HB0 : Hid (Below W.heap.size W ((W.alloc (.cells #[.int .i64 1, .string n, .string v] 232)).alloc (.cells #[.string m, .string h, .string p, .slice a0 l.length cap, .string b] 113))) := by show Below _ _ _; go_grown
  clear _hl _hp hr
  go_enter Try.func163, Try.ntmps163
  go_wp2_with fail
  refine (HO.out _).mono ?_
  rintro e w1 ⟨a, b', c, d, rfl, hb1, hka⟩
  have hk := HZ.out.later hb1
  have hy := HY.out.later hb1
  have d0 : w1.cell? ⟨W.heap.size, 0, none⟩ = some (.int .i64 1) := hk.cell 0
  have d1 : w1.cell? ⟨W.heap.size, 1, none⟩ = some (.string n) := hk.cell 1
  have d2 : w1.cell? ⟨W.heap.size, 2, none⟩ = some (.string v) := hk.cell 2
  have y0 : w1.cell? ⟨W.heap.size + 1, 0, none⟩ = some (.string m) := hy.cell 0
  have y1 : w1.cell? ⟨W.heap.size + 1, 1, none⟩ = some (.string h) := hy.cell 1
  have y2 : w1.cell? ⟨W.heap.size + 1, 2, none⟩ = some (.string p) := hy.cell 2
  have y3 : w1.cell? ⟨W.heap.size + 1, 3, none⟩ = some (.slice a0 l.length cap) := hy.cell 3
  have y4 : w1.cell? ⟨W.heap.size + 1, 4, none⟩ = some (.string b) := hy.cell 4
  have hlt := hk.lt
  have hlt2 := hy.lt
  have HB1 := hid (HB0.out.trans (hb1.mono (by simp; try omega)))
  have HN1 : Hid (Below W.heap.size W (w1.alloc (.cells #[.bool false, .bool true, .func (.func 173) #[] #[], .func (.func 176) #[] #[]] 251))) := hid (HB1.out.trans (by have := HB1.out.size; go_grown; all_goals omega))
  clear hb1 hk hka hy
  go_wp2_with fail
  refine (HC.out _).mono ?_
  rintro e w2 ⟨rfl, hb2⟩
  have HB2 := hid (HN1.out.trans (hb2.mono HN1.out.size))
  clear hb2
  go_wp2_with fail
  go_ret
  exact ⟨rfl, HB2.out⟩
set_option maxRecDepth 100000 in
set_option maxHeartbeats 1000000 in
theorem pmatch2 {pp : Nat → Prop} (n v m h p b : ByteArray) (l : List Hd) (a0 : Option Addr) (cap : Nat) (r : Bool) (W : World) (_hl : RowsOf pp Hd.enc 2 W (.slice a0 l.length cap) l) (_hp : ∀ b, pp b → b < W.heap.size) (_hn : l.length ≤ 1000000) (hr : decide (h = v) = r) :
    Calls Try.prog 163 #[.agg #[.int .i64 2, .string n, .string v], .agg #[.string m, .string h, .string p, .slice a0 l.length cap, .string b]] W fun e w' => e = .returned (.bool r) ∧ Below W.heap.size W w' := by
  have HO : Hid (∀ w, Calls Try.prog 171 #[.int .i64 2] w fun e w' => ∃ a b c d : Nat, e = .returned (.tuple #[.agg #[.bool false, .bool true, .func (.func 190) #[] #[.pointer (some ⟨a, 0, none⟩), .pointer (some ⟨b, 0, none⟩)], .func (.func 179) #[] #[]], .bool true]) ∧ Below w.heap.size w w' ∧ Hid (KindsAt w' a b c d)) := hid (fun w => of2 w)
  have HC := hid (fun w => mHost 2 n v m h p b (.slice a0 l.length cap) r w a0 l.length cap rfl hr)
  have HZ := hid ((Blk.new W #[.int .i64 2, .string n, .string v] 232).alloc (.cells #[.string m, .string h, .string p, .slice a0 l.length cap, .string b] 113))
  have HY := hid (Blk.new' (W.alloc (.cells #[.int .i64 2, .string n, .string v] 232)) #[.string m, .string h, .string p, .slice a0 l.length cap, .string b] 113 (n := W.heap.size + 1) (by simp))
  have HB0 : Hid (Below W.heap.size W ((W.alloc (.cells #[.int .i64 2, .string n, .string v] 232)).alloc (.cells #[.string m, .string h, .string p, .slice a0 l.length cap, .string b] 113))) := by show Below _ _ _; go_grown
  clear _hl _hp hr
  go_enter Try.func163, Try.ntmps163
  go_wp2_with fail
  refine (HO.out _).mono ?_
  rintro e w1 ⟨a, b', c, d, rfl, hb1, hka⟩
  have hk := HZ.out.later hb1
  have hy := HY.out.later hb1
  have d0 : w1.cell? ⟨W.heap.size, 0, none⟩ = some (.int .i64 2) := hk.cell 0
  have d1 : w1.cell? ⟨W.heap.size, 1, none⟩ = some (.string n) := hk.cell 1
  have d2 : w1.cell? ⟨W.heap.size, 2, none⟩ = some (.string v) := hk.cell 2
  have y0 : w1.cell? ⟨W.heap.size + 1, 0, none⟩ = some (.string m) := hy.cell 0
  have y1 : w1.cell? ⟨W.heap.size + 1, 1, none⟩ = some (.string h) := hy.cell 1
  have y2 : w1.cell? ⟨W.heap.size + 1, 2, none⟩ = some (.string p) := hy.cell 2
  have y3 : w1.cell? ⟨W.heap.size + 1, 3, none⟩ = some (.slice a0 l.length cap) := hy.cell 3
  have y4 : w1.cell? ⟨W.heap.size + 1, 4, none⟩ = some (.string b) := hy.cell 4
  have hlt := hk.lt
  have hlt2 := hy.lt
  have HB1 := hid (HB0.out.trans (hb1.mono (by simp; try omega)))
  have HN1 : Hid (Below W.heap.size W (w1.alloc (.cells #[.bool false, .bool true, .func (.func 190) #[] #[.pointer (some ⟨a, 0, none⟩), .pointer (some ⟨b', 0, none⟩)], .func (.func 179) #[] #[]] 251))) := hid (HB1.out.trans (by have := HB1.out.size; go_grown; all_goals omega))
  clear hb1 hk hka hy
  go_wp2_with fail
  refine (HC.out _).mono ?_
  rintro e w2 ⟨rfl, hb2⟩
  have HB2 := hid (HN1.out.trans (hb2.mono HN1.out.size))
  clear hb2
  go_wp2_with fail
  go_ret
  exact ⟨rfl, HB2.out⟩
set_option maxRecDepth 100000 in
set_option maxHeartbeats 1000000 in
theorem pmatch3 {pp : Nat → Prop} (n v m h p b : ByteArray) (l : List Hd) (a0 : Option Addr) (cap : Nat) (r : Bool) (W : World) (_hl : RowsOf pp Hd.enc 2 W (.slice a0 l.length cap) l) (_hp : ∀ b, pp b → b < W.heap.size) (_hn : l.length ≤ 1000000) (hr : decide (p = v) = r) :
    Calls Try.prog 163 #[.agg #[.int .i64 3, .string n, .string v], .agg #[.string m, .string h, .string p, .slice a0 l.length cap, .string b]] W fun e w' => e = .returned (.bool r) ∧ Below W.heap.size W w' := by
  have HO : Hid (∀ w, Calls Try.prog 171 #[.int .i64 3] w fun e w' => ∃ a b c d : Nat, e = .returned (.tuple #[.agg #[.bool false, .bool true, .func (.func 175) #[] #[], .func (.func 180) #[] #[]], .bool true]) ∧ Below w.heap.size w w' ∧ Hid (KindsAt w' a b c d)) := hid (fun w => of3 w)
  have HC := hid (fun w => mExact 3 n v m h p b (.slice a0 l.length cap) r w a0 l.length cap rfl hr)
  have HZ := hid ((Blk.new W #[.int .i64 3, .string n, .string v] 232).alloc (.cells #[.string m, .string h, .string p, .slice a0 l.length cap, .string b] 113))
  have HY := hid (Blk.new' (W.alloc (.cells #[.int .i64 3, .string n, .string v] 232)) #[.string m, .string h, .string p, .slice a0 l.length cap, .string b] 113 (n := W.heap.size + 1) (by simp))
  have HB0 : Hid (Below W.heap.size W ((W.alloc (.cells #[.int .i64 3, .string n, .string v] 232)).alloc (.cells #[.string m, .string h, .string p, .slice a0 l.length cap, .string b] 113))) := by show Below _ _ _; go_grown
  clear _hl _hp hr
  go_enter Try.func163, Try.ntmps163
  go_wp2_with fail
  refine (HO.out _).mono ?_
  rintro e w1 ⟨a, b', c, d, rfl, hb1, hka⟩
  have hk := HZ.out.later hb1
  have hy := HY.out.later hb1
  have d0 : w1.cell? ⟨W.heap.size, 0, none⟩ = some (.int .i64 3) := hk.cell 0
  have d1 : w1.cell? ⟨W.heap.size, 1, none⟩ = some (.string n) := hk.cell 1
  have d2 : w1.cell? ⟨W.heap.size, 2, none⟩ = some (.string v) := hk.cell 2
  have y0 : w1.cell? ⟨W.heap.size + 1, 0, none⟩ = some (.string m) := hy.cell 0
  have y1 : w1.cell? ⟨W.heap.size + 1, 1, none⟩ = some (.string h) := hy.cell 1
  have y2 : w1.cell? ⟨W.heap.size + 1, 2, none⟩ = some (.string p) := hy.cell 2
  have y3 : w1.cell? ⟨W.heap.size + 1, 3, none⟩ = some (.slice a0 l.length cap) := hy.cell 3
  have y4 : w1.cell? ⟨W.heap.size + 1, 4, none⟩ = some (.string b) := hy.cell 4
  have hlt := hk.lt
  have hlt2 := hy.lt
  have HB1 := hid (HB0.out.trans (hb1.mono (by simp; try omega)))
  have HN1 : Hid (Below W.heap.size W (w1.alloc (.cells #[.bool false, .bool true, .func (.func 175) #[] #[], .func (.func 180) #[] #[]] 251))) := hid (HB1.out.trans (by have := HB1.out.size; go_grown; all_goals omega))
  clear hb1 hk hka hy
  go_wp2_with fail
  refine (HC.out _).mono ?_
  rintro e w2 ⟨rfl, hb2⟩
  have HB2 := hid (HN1.out.trans (hb2.mono HN1.out.size))
  clear hb2
  go_wp2_with fail
  go_ret
  exact ⟨rfl, HB2.out⟩
set_option maxRecDepth 100000 in
set_option maxHeartbeats 1000000 in
theorem pmatch4 {pp : Nat → Prop} (n v m h p b : ByteArray) (l : List Hd) (a0 : Option Addr) (cap : Nat) (r : Bool) (W : World) (_hl : RowsOf pp Hd.enc 2 W (.slice a0 l.length cap) l) (_hp : ∀ b, pp b → b < W.heap.size) (_hn : l.length ≤ 1000000) (hr : prefR p v = r) :
    Calls Try.prog 163 #[.agg #[.int .i64 4, .string n, .string v], .agg #[.string m, .string h, .string p, .slice a0 l.length cap, .string b]] W fun e w' => e = .returned (.bool r) ∧ Below W.heap.size W w' := by
  have HO : Hid (∀ w, Calls Try.prog 171 #[.int .i64 4] w fun e w' => ∃ a b c d : Nat, e = .returned (.tuple #[.agg #[.bool false, .bool true, .func (.func 175) #[] #[], .func (.func 181) #[] #[]], .bool true]) ∧ Below w.heap.size w w' ∧ Hid (KindsAt w' a b c d)) := hid (fun w => of4 w)
  have HC := hid (fun w => mPrefix 4 n v m h p b (.slice a0 l.length cap) r w a0 l.length cap rfl hr)
  have HZ := hid ((Blk.new W #[.int .i64 4, .string n, .string v] 232).alloc (.cells #[.string m, .string h, .string p, .slice a0 l.length cap, .string b] 113))
  have HY := hid (Blk.new' (W.alloc (.cells #[.int .i64 4, .string n, .string v] 232)) #[.string m, .string h, .string p, .slice a0 l.length cap, .string b] 113 (n := W.heap.size + 1) (by simp))
  have HB0 : Hid (Below W.heap.size W ((W.alloc (.cells #[.int .i64 4, .string n, .string v] 232)).alloc (.cells #[.string m, .string h, .string p, .slice a0 l.length cap, .string b] 113))) := by show Below _ _ _; go_grown
  clear _hl _hp hr
  go_enter Try.func163, Try.ntmps163
  go_wp2_with fail
  refine (HO.out _).mono ?_
  rintro e w1 ⟨a, b', c, d, rfl, hb1, hka⟩
  have hk := HZ.out.later hb1
  have hy := HY.out.later hb1
  have d0 : w1.cell? ⟨W.heap.size, 0, none⟩ = some (.int .i64 4) := hk.cell 0
  have d1 : w1.cell? ⟨W.heap.size, 1, none⟩ = some (.string n) := hk.cell 1
  have d2 : w1.cell? ⟨W.heap.size, 2, none⟩ = some (.string v) := hk.cell 2
  have y0 : w1.cell? ⟨W.heap.size + 1, 0, none⟩ = some (.string m) := hy.cell 0
  have y1 : w1.cell? ⟨W.heap.size + 1, 1, none⟩ = some (.string h) := hy.cell 1
  have y2 : w1.cell? ⟨W.heap.size + 1, 2, none⟩ = some (.string p) := hy.cell 2
  have y3 : w1.cell? ⟨W.heap.size + 1, 3, none⟩ = some (.slice a0 l.length cap) := hy.cell 3
  have y4 : w1.cell? ⟨W.heap.size + 1, 4, none⟩ = some (.string b) := hy.cell 4
  have hlt := hk.lt
  have hlt2 := hy.lt
  have HB1 := hid (HB0.out.trans (hb1.mono (by simp; try omega)))
  have HN1 : Hid (Below W.heap.size W (w1.alloc (.cells #[.bool false, .bool true, .func (.func 175) #[] #[], .func (.func 181) #[] #[]] 251))) := hid (HB1.out.trans (by have := HB1.out.size; go_grown; all_goals omega))
  clear hb1 hk hka hy
  go_wp2_with fail
  refine (HC.out _).mono ?_
  rintro e w2 ⟨rfl, hb2⟩
  have HB2 := hid (HN1.out.trans (hb2.mono HN1.out.size))
  clear hb2
  go_wp2_with fail
  go_ret
  exact ⟨rfl, HB2.out⟩
set_option maxRecDepth 100000 in
set_option maxHeartbeats 1000000 in
theorem pmatch5 {pp : Nat → Prop} (n v m h p b : ByteArray) (l : List Hd) (a0 : Option Addr) (cap : Nat) (r : Bool) (W : World) (hl : RowsOf pp Hd.enc 2 W (.slice a0 l.length cap) l) (hp : ∀ b, pp b → b < W.heap.size) (hn : l.length ≤ 1000000) (hr : (Hd.allR l n).any (fun x => decide (x = v)) = r) :
    Calls Try.prog 163 #[.agg #[.int .i64 5, .string n, .string v], .agg #[.string m, .string h, .string p, .slice a0 l.length cap, .string b]] W fun e w' => e = .returned (.bool r) ∧ Below W.heap.size W w' := by
  have HO : Hid (∀ w, Calls Try.prog 171 #[.int .i64 5] w fun e w' => ∃ a b c d : Nat, e = .returned (.tuple #[.agg #[.bool true, .bool true, .func (.func 190) #[] #[.pointer (some ⟨c, 0, none⟩), .pointer (some ⟨d, 0, none⟩)], .func (.func 184) #[] #[]], .bool true]) ∧ Below w.heap.size w w' ∧ Hid (KindsAt w' a b c d)) := hid (fun w => of5 w)
  have HC := hid (fun w' (hw : Below W.heap.size W w') => mHead 5 n v m h p b (.slice a0 l.length cap) l r w' (hl.below hw hp) (fun b hb => Nat.lt_of_lt_of_le (hp b hb) hw.size) hn hr)
  have HZ := hid ((Blk.new W #[.int .i64 5, .string n, .string v] 232).alloc (.cells #[.string m, .string h, .string p, .slice a0 l.length cap, .string b] 113))
  have HY := hid (Blk.new' (W.alloc (.cells #[.int .i64 5, .string n, .string v] 232)) #[.string m, .string h, .string p, .slice a0 l.length cap, .string b] 113 (n := W.heap.size + 1) (by simp))
  have HB0 : Hid (Below W.heap.size W ((W.alloc (.cells #[.int .i64 5, .string n, .string v] 232)).alloc (.cells #[.string m, .string h, .string p, .slice a0 l.length cap, .string b] 113))) := by show Below _ _ _; go_grown
  clear hl hp hr
  go_enter Try.func163, Try.ntmps163
  go_wp2_with fail
  refine (HO.out _).mono ?_
  rintro e w1 ⟨a, b', c, d, rfl, hb1, hka⟩
  have hk := HZ.out.later hb1
  have hy := HY.out.later hb1
  have d0 : w1.cell? ⟨W.heap.size, 0, none⟩ = some (.int .i64 5) := hk.cell 0
  have d1 : w1.cell? ⟨W.heap.size, 1, none⟩ = some (.string n) := hk.cell 1
  have d2 : w1.cell? ⟨W.heap.size, 2, none⟩ = some (.string v) := hk.cell 2
  have y0 : w1.cell? ⟨W.heap.size + 1, 0, none⟩ = some (.string m) := hy.cell 0
  have y1 : w1.cell? ⟨W.heap.size + 1, 1, none⟩ = some (.string h) := hy.cell 1
  have y2 : w1.cell? ⟨W.heap.size + 1, 2, none⟩ = some (.string p) := hy.cell 2
  have y3 : w1.cell? ⟨W.heap.size + 1, 3, none⟩ = some (.slice a0 l.length cap) := hy.cell 3
  have y4 : w1.cell? ⟨W.heap.size + 1, 4, none⟩ = some (.string b) := hy.cell 4
  have hlt := hk.lt
  have hlt2 := hy.lt
  have HB1 := hid (HB0.out.trans (hb1.mono (by simp; try omega)))
  have HN1 : Hid (Below W.heap.size W (w1.alloc (.cells #[.bool true, .bool true, .func (.func 190) #[] #[.pointer (some ⟨c, 0, none⟩), .pointer (some ⟨d, 0, none⟩)], .func (.func 184) #[] #[]] 251))) := hid (HB1.out.trans (by have := HB1.out.size; go_grown; all_goals omega))
  clear hb1 hk hka hy
  go_wp2_with fail
  refine (HC.out _ HN1.out).mono ?_
  rintro e w2 ⟨rfl, hb2⟩
  have HB2 := hid (HN1.out.trans (hb2.mono HN1.out.size))
  clear hb2
  go_wp2_with fail
  go_ret
  exact ⟨rfl, HB2.out⟩
set_option maxRecDepth 100000 in
set_option maxHeartbeats 1000000 in
theorem pmatch6 {pp : Nat → Prop} (n v m h p b : ByteArray) (l : List Hd) (a0 : Option Addr) (cap : Nat) (r : Bool) (W : World) (hl : RowsOf pp Hd.enc 2 W (.slice a0 l.length cap) l) (hp : ∀ b, pp b → b < W.heap.size) (hn : l.length ≤ 1000000) (hr : decide (0 < (Hd.allR l n).length) = r) :
    Calls Try.prog 163 #[.agg #[.int .i64 6, .string n, .string v], .agg #[.string m, .string h, .string p, .slice a0 l.length cap, .string b]] W fun e w' => e = .returned (.bool r) ∧ Below W.heap.size W w' := by
  have HO : Hid (∀ w, Calls Try.prog 171 #[.int .i64 6] w fun e w' => ∃ a b c d : Nat, e = .returned (.tuple #[.agg #[.bool true, .bool false, .func (.func 187) #[] #[], .func (.func 188) #[] #[]], .bool true]) ∧ Below w.heap.size w w' ∧ Hid (KindsAt w' a b c d)) := hid (fun w => of6 w)
  have HC := hid (fun w' (hw : Below W.heap.size W w') => mHas 6 n v m h p b (.slice a0 l.length cap) l r w' (hl.below hw hp) (fun b hb => Nat.lt_of_lt_of_le (hp b hb) hw.size) hn hr)
  have HZ := hid ((Blk.new W #[.int .i64 6, .string n, .string v] 232).alloc (.cells #[.string m, .string h, .string p, .slice a0 l.length cap, .string b] 113))
  have HY := hid (Blk.new' (W.alloc (.cells #[.int .i64 6, .string n, .string v] 232)) #[.string m, .string h, .string p, .slice a0 l.length cap, .string b] 113 (n := W.heap.size + 1) (by simp))
  have HB0 : Hid (Below W.heap.size W ((W.alloc (.cells #[.int .i64 6, .string n, .string v] 232)).alloc (.cells #[.string m, .string h, .string p, .slice a0 l.length cap, .string b] 113))) := by show Below _ _ _; go_grown
  clear hl hp hr
  go_enter Try.func163, Try.ntmps163
  go_wp2_with fail
  refine (HO.out _).mono ?_
  rintro e w1 ⟨a, b', c, d, rfl, hb1, hka⟩
  have hk := HZ.out.later hb1
  have hy := HY.out.later hb1
  have d0 : w1.cell? ⟨W.heap.size, 0, none⟩ = some (.int .i64 6) := hk.cell 0
  have d1 : w1.cell? ⟨W.heap.size, 1, none⟩ = some (.string n) := hk.cell 1
  have d2 : w1.cell? ⟨W.heap.size, 2, none⟩ = some (.string v) := hk.cell 2
  have y0 : w1.cell? ⟨W.heap.size + 1, 0, none⟩ = some (.string m) := hy.cell 0
  have y1 : w1.cell? ⟨W.heap.size + 1, 1, none⟩ = some (.string h) := hy.cell 1
  have y2 : w1.cell? ⟨W.heap.size + 1, 2, none⟩ = some (.string p) := hy.cell 2
  have y3 : w1.cell? ⟨W.heap.size + 1, 3, none⟩ = some (.slice a0 l.length cap) := hy.cell 3
  have y4 : w1.cell? ⟨W.heap.size + 1, 4, none⟩ = some (.string b) := hy.cell 4
  have hlt := hk.lt
  have hlt2 := hy.lt
  have HB1 := hid (HB0.out.trans (hb1.mono (by simp; try omega)))
  have HN1 : Hid (Below W.heap.size W (w1.alloc (.cells #[.bool true, .bool false, .func (.func 187) #[] #[], .func (.func 188) #[] #[]] 251))) := hid (HB1.out.trans (by have := HB1.out.size; go_grown; all_goals omega))
  clear hb1 hk hka hy
  go_wp2_with fail
  refine (HC.out _ HN1.out).mono ?_
  rintro e w2 ⟨rfl, hb2⟩
  have HB2 := hid (HN1.out.trans (hb2.mono HN1.out.size))
  clear hb2
  go_wp2_with fail
  go_ret
  exact ⟨rfl, HB2.out⟩
set_option maxRecDepth 100000 in
set_option maxHeartbeats 1000000 in
theorem pmatch0 (k : Int) (n v m h p b : ByteArray) (a0 : Option Addr) (len cap : Nat) (W : World) (hk : k < 1 ∨ 6 < k) :
    Calls Try.prog 163 #[.agg #[.int .i64 k, .string n, .string v], .agg #[.string m, .string h, .string p, .slice a0 len cap, .string b]] W fun e w' => e = .returned (.bool false) ∧ Below W.heap.size W w' := by
  have HO : Hid (∀ w, Calls Try.prog 171 #[.int .i64 k] w fun e w' => e = .returned (.tuple #[.agg #[.bool false, .bool false, .nilFunc, .nilFunc], .bool false]) ∧ Below w.heap.size w w') := hid (fun w => hk.elim (fun h => of_low k w h) (fun h => of_high k w h))
  have HB0 : Hid (Below W.heap.size W ((W.alloc (.cells #[.int .i64 k, .string n, .string v] 232)).alloc (.cells #[.string m, .string h, .string p, .slice a0 len cap, .string b] 113))) := by show Below _ _ _; go_grown
  clear hk
  go_enter Try.func163, Try.ntmps163
  go_wp2_with fail
  refine (HO.out _).mono ?_
  rintro e w1 ⟨rfl, hb1⟩
  have HB1 := hid (HB0.out.trans (hb1.mono HB0.out.size))
  have HN1 : Hid (Below W.heap.size W (w1.alloc (.cells #[.bool false, .bool false, .nilFunc, .nilFunc] 251))) := hid (HB1.out.trans (by have := HB1.out.size; go_grown; all_goals omega))
  clear hb1
  go_wp2_with fail
  go_ret
  exact ⟨rfl, HN1.out⟩
theorem pmatch_any {pp : Nat → Prop} (k : Int) (n v m h p b : ByteArray) (l : List Hd) (hd : Value) (r : Bool) (W : World) (hl : RowsOf pp Hd.enc 2 W hd l) (hp : ∀ b, pp b → b < W.heap.size) (hn : l.length ≤ 1000000) (hr : matchR k n v m h p l = r) :
    Calls Try.prog 163 #[.agg #[.int .i64 k, .string n, .string v], .agg #[.string m, .string h, .string p, hd, .string b]] W fun e w' => e = .returned (.bool r) ∧ Below W.heap.size W w' := by
  obtain ⟨a0, cap, rfl⟩ := hl.form
  unfold matchR at hr
  by_cases h1 : k = 1
  · rw [if_pos h1] at hr
    subst h1
    exact pmatch1 n v m h p b l a0 cap r W hl hp hn hr
  rw [if_neg h1] at hr
  by_cases h2 : k = 2
  · rw [if_pos h2] at hr
    subst h2
    exact pmatch2 n v m h p b l a0 cap r W hl hp hn hr
  rw [if_neg h2] at hr
  by_cases h3 : k = 3
  · rw [if_pos h3] at hr
    subst h3
    exact pmatch3 n v m h p b l a0 cap r W hl hp hn hr
  rw [if_neg h3] at hr
  by_cases h4 : k = 4
  · rw [if_pos h4] at hr
    subst h4
    exact pmatch4 n v m h p b l a0 cap r W hl hp hn hr
  rw [if_neg h4] at hr
  by_cases h5 : k = 5
  · rw [if_pos h5] at hr
    subst h5
    exact pmatch5 n v m h p b l a0 cap r W hl hp hn hr
  rw [if_neg h5] at hr
  by_cases h6 : k = 6
  · rw [if_pos h6] at hr
    subst h6
    exact pmatch6 n v m h p b l a0 cap r W hl hp hn hr
  rw [if_neg h6] at hr
  subst hr
  exact pmatch0 k n v m h p b a0 l.length cap W (by omega)
end C11
end Go.Proofs.Ythmopkaecbebpaa
