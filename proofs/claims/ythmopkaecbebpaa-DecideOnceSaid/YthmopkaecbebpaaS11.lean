/- Walks of layer 11 (pred): how a request is matched by the document; no condition. -/
import Derived.Test.YthmopkaecbebpaaQ11
namespace Go.Proofs.Ythmopkaecbebpaa
open Go.RowKit Go.Peri
namespace C11
set_option maxRecDepth 100000 in
set_option maxHeartbeats 1000000 in
theorem rmatch1 {pp : Nat → Prop} (n v m h p b : ByteArray) (l : List Hd) (a0 : Option Addr) (cap : Nat) (r : Bool) (W : World) (hl : RowsOf pp Hd.enc 2 W (.slice a0 l.length cap) l) (hp : ∀ b, pp b → b < W.heap.size) (hn : l.length ≤ 1000000) (hr : decide (m = v) = r) :
    Calls Try.prog 148 #[.agg #[.int .i64 1, .string n, .string v], .agg #[.string m, .string h, .string p, .slice a0 l.length cap, .string b]] W fun e w' => e = .returned (.bool r) ∧ Below W.heap.size W w' := by
  have HA := hid (fun w' (hw : Below W.heap.size W w') => C04.rall_any (.slice a0 l.length cap) l n w' (hl.below hw hp) (fun b hb => Nat.lt_of_lt_of_le (hp b hb) hw.size) (by omega))
  have HZ := hid ((Blk.new W #[.int .i64 1, .string n, .string v] 232).alloc (.cells #[.string m, .string h, .string p, .slice a0 l.length cap, .string b] 113))
  have HY := hid (Blk.new' (W.alloc (.cells #[.int .i64 1, .string n, .string v] 232)) #[.string m, .string h, .string p, .slice a0 l.length cap, .string b] 113 (n := W.heap.size + 1) (by simp))
  have HB0 : Hid (Below W.heap.size W ((W.alloc (.cells #[.int .i64 1, .string n, .string v] 232)).alloc (.cells #[.string m, .string h, .string p, .slice a0 l.length cap, .string b] 113))) := by show Below _ _ _; go_grown
  have k1 := (strEq_of hr).eq
  have k2 := (strEq_of hr).ne
  clear hl hp hr
  go_enter Try.func148, Try.ntmps148
  go_wp2_with fail
  refine (HA.out _ HB0.out).mono ?_
  rintro e w1 ⟨a1, c1, rfl, hb1, hrow⟩
  have hk := HZ.out.later hb1
  have hy := HY.out.later hb1
  have d0 : w1.cell? ⟨W.heap.size, 0, none⟩ = some (.int .i64 1) := hk.cell 0
  have d2 : w1.cell? ⟨W.heap.size, 2, none⟩ = some (.string v) := hk.cell 2
  have y0 : w1.cell? ⟨W.heap.size + 1, 0, none⟩ = some (.string m) := hy.cell 0
  have y1 : w1.cell? ⟨W.heap.size + 1, 1, none⟩ = some (.string h) := hy.cell 1
  have y2 : w1.cell? ⟨W.heap.size + 1, 2, none⟩ = some (.string p) := hy.cell 2
  have hlt := hk.lt
  have hlt2 := hy.lt
  have HB1 := hid (HB0.out.trans (hb1.mono HB0.out.size))
  clear hb1 hk hy
  clear hrow
  go_wp2_with fail
  go_ret
  exact ⟨rfl, HB1.out⟩
set_option maxRecDepth 100000 in
set_option maxHeartbeats 1000000 in
theorem rmatch2 {pp : Nat → Prop} (n v m h p b : ByteArray) (l : List Hd) (a0 : Option Addr) (cap : Nat) (r : Bool) (W : World) (hl : RowsOf pp Hd.enc 2 W (.slice a0 l.length cap) l) (hp : ∀ b, pp b → b < W.heap.size) (hn : l.length ≤ 1000000) (hr : decide (h = v) = r) :
    Calls Try.prog 148 #[.agg #[.int .i64 2, .string n, .string v], .agg #[.string m, .string h, .string p, .slice a0 l.length cap, .string b]] W fun e w' => e = .returned (.bool r) ∧ Below W.heap.size W w' := by
  have HA := hid (fun w' (hw : Below W.heap.size W w') => C04.rall_any (.slice a0 l.length cap) l n w' (hl.below hw hp) (fun b hb => Nat.lt_of_lt_of_le (hp b hb) hw.size) (by omega))
  have HZ := hid ((Blk.new W #[.int .i64 2, .string n, .string v] 232).alloc (.cells #[.string m, .string h, .string p, .slice a0 l.length cap, .string b] 113))
  have HY := hid (Blk.new' (W.alloc (.cells #[.int .i64 2, .string n, .string v] 232)) #[.string m, .string h, .string p, .slice a0 l.length cap, .string b] 113 (n := W.heap.size + 1) (by simp))
  have HB0 : Hid (Below W.heap.size W ((W.alloc (.cells #[.int .i64 2, .string n, .string v] 232)).alloc (.cells #[.string m, .string h, .string p, .slice a0 l.length cap, .string b] 113))) := by show Below _ _ _; go_grown
  have k1 := (strEq_of hr).eq
  have k2 := (strEq_of hr).ne
  clear hl hp hr
  go_enter Try.func148, Try.ntmps148
  go_wp2_with fail
  refine (HA.out _ HB0.out).mono ?_
  rintro e w1 ⟨a1, c1, rfl, hb1, hrow⟩
  have hk := HZ.out.later hb1
  have hy := HY.out.later hb1
  have d0 : w1.cell? ⟨W.heap.size, 0, none⟩ = some (.int .i64 2) := hk.cell 0
  have d2 : w1.cell? ⟨W.heap.size, 2, none⟩ = some (.string v) := hk.cell 2
  have y0 : w1.cell? ⟨W.heap.size + 1, 0, none⟩ = some (.string m) := hy.cell 0
  have y1 : w1.cell? ⟨W.heap.size + 1, 1, none⟩ = some (.string h) := hy.cell 1
  have y2 : w1.cell? ⟨W.heap.size + 1, 2, none⟩ = some (.string p) := hy.cell 2
  have hlt := hk.lt
  have hlt2 := hy.lt
  have HB1 := hid (HB0.out.trans (hb1.mono HB0.out.size))
  clear hb1 hk hy
  clear hrow
  go_wp2_with fail
  go_ret
  exact ⟨rfl, HB1.out⟩
set_option maxRecDepth 100000 in
set_option maxHeartbeats 1000000 in
theorem rmatch3 {pp : Nat → Prop} (n v m h p b : ByteArray) (l : List Hd) (a0 : Option Addr) (cap : Nat) (r : Bool) (W : World) (hl : RowsOf pp Hd.enc 2 W (.slice a0 l.length cap) l) (hp : ∀ b, pp b → b < W.heap.size) (hn : l.length ≤ 1000000) (hr : decide (p = v) = r) :
    Calls Try.prog 148 #[.agg #[.int .i64 3, .string n, .string v], .agg #[.string m, .string h, .string p, .slice a0 l.length cap, .string b]] W fun e w' => e = .returned (.bool r) ∧ Below W.heap.size W w' := by
  have HA := hid (fun w' (hw : Below W.heap.size W w') => C04.rall_any (.slice a0 l.length cap) l n w' (hl.below hw hp) (fun b hb => Nat.lt_of_lt_of_le (hp b hb) hw.size) (by omega))
  have HZ := hid ((Blk.new W #[.int .i64 3, .string n, .string v] 232).alloc (.cells #[.string m, .string h, .string p, .slice a0 l.length cap, .string b] 113))
  have HY := hid (Blk.new' (W.alloc (.cells #[.int .i64 3, .string n, .string v] 232)) #[.string m, .string h, .string p, .slice a0 l.length cap, .string b] 113 (n := W.heap.size + 1) (by simp))
  have HB0 : Hid (Below W.heap.size W ((W.alloc (.cells #[.int .i64 3, .string n, .string v] 232)).alloc (.cells #[.string m, .string h, .string p, .slice a0 l.length cap, .string b] 113))) := by show Below _ _ _; go_grown
  have k1 := (strEq_of hr).eq
  have k2 := (strEq_of hr).ne
  clear hl hp hr
  go_enter Try.func148, Try.ntmps148
  go_wp2_with fail
  refine (HA.out _ HB0.out).mono ?_
  rintro e w1 ⟨a1, c1, rfl, hb1, hrow⟩
  have hk := HZ.out.later hb1
  have hy := HY.out.later hb1
  have d0 : w1.cell? ⟨W.heap.size, 0, none⟩ = some (.int .i64 3) := hk.cell 0
  have d2 : w1.cell? ⟨W.heap.size, 2, none⟩ = some (.string v) := hk.cell 2
  have y0 : w1.cell? ⟨W.heap.size + 1, 0, none⟩ = some (.string m) := hy.cell 0
  have y1 : w1.cell? ⟨W.heap.size + 1, 1, none⟩ = some (.string h) := hy.cell 1
  have y2 : w1.cell? ⟨W.heap.size + 1, 2, none⟩ = some (.string p) := hy.cell 2
  have hlt := hk.lt
  have hlt2 := hy.lt
  have HB1 := hid (HB0.out.trans (hb1.mono HB0.out.size))
  clear hb1 hk hy
  clear hrow
  go_wp2_with fail
  go_ret
  exact ⟨rfl, HB1.out⟩
set_option maxRecDepth 100000 in
set_option maxHeartbeats 1000000 in
theorem rmatch4a {pp : Nat → Prop} (n v m h p b : ByteArray) (l : List Hd) (a0 : Option Addr) (cap : Nat) (r : Bool) (W : World) (hl : RowsOf pp Hd.enc 2 W (.slice a0 l.length cap) l) (hp : ∀ b, pp b → b < W.heap.size) (hn : l.length ≤ 1000000) (hg : v.size ≤ p.size) (hr : decide (p.extract 0 v.size = v) = r) :
    Calls Try.prog 148 #[.agg #[.int .i64 4, .string n, .string v], .agg #[.string m, .string h, .string p, .slice a0 l.length cap, .string b]] W fun e w' => e = .returned (.bool r) ∧ Below W.heap.size W w' := by
  have HA := hid (fun w' (hw : Below W.heap.size W w') => C04.rall_any (.slice a0 l.length cap) l n w' (hl.below hw hp) (fun b hb => Nat.lt_of_lt_of_le (hp b hb) hw.size) (by omega))
  have HZ := hid ((Blk.new W #[.int .i64 4, .string n, .string v] 232).alloc (.cells #[.string m, .string h, .string p, .slice a0 l.length cap, .string b] 113))
  have HY := hid (Blk.new' (W.alloc (.cells #[.int .i64 4, .string n, .string v] 232)) #[.string m, .string h, .string p, .slice a0 l.length cap, .string b] 113 (n := W.heap.size + 1) (by simp))
  have HB0 : Hid (Below W.heap.size W ((W.alloc (.cells #[.int .i64 4, .string n, .string v] 232)).alloc (.cells #[.string m, .string h, .string p, .slice a0 l.length cap, .string b] 113))) := by show Below _ _ _; go_grown
  have k1 := (strEq_of hr).eq
  have k2 := (strEq_of hr).ne
  clear hl hp hr
  have g1 : (v.size : Int) ≤ (p.size : Int) := by omega
  go_enter Try.func148, Try.ntmps148
  go_wp2_with fail
  refine (HA.out _ HB0.out).mono ?_
  rintro e w1 ⟨a1, c1, rfl, hb1, hrow⟩
  have hk := HZ.out.later hb1
  have hy := HY.out.later hb1
  have d0 : w1.cell? ⟨W.heap.size, 0, none⟩ = some (.int .i64 4) := hk.cell 0
  have d2 : w1.cell? ⟨W.heap.size, 2, none⟩ = some (.string v) := hk.cell 2
  have y0 : w1.cell? ⟨W.heap.size + 1, 0, none⟩ = some (.string m) := hy.cell 0
  have y1 : w1.cell? ⟨W.heap.size + 1, 1, none⟩ = some (.string h) := hy.cell 1
  have y2 : w1.cell? ⟨W.heap.size + 1, 2, none⟩ = some (.string p) := hy.cell 2
  have hlt := hk.lt
  have hlt2 := hy.lt
  have HB1 := hid (HB0.out.trans (hb1.mono HB0.out.size))
  clear hb1 hk hy
  clear hrow
  go_wp2_with fail
  go_quiet (fail)
  go_wp2_with fail
  go_ret
  exact ⟨rfl, HB1.out.trans ⟨rfl, rfl, rfl, Nat.le_refl _, fun _ _ => rfl⟩⟩
set_option maxRecDepth 100000 in
set_option maxHeartbeats 1000000 in
theorem rmatch4b {pp : Nat → Prop} (n v m h p b : ByteArray) (l : List Hd) (a0 : Option Addr) (cap : Nat) (W : World) (hl : RowsOf pp Hd.enc 2 W (.slice a0 l.length cap) l) (hp : ∀ b, pp b → b < W.heap.size) (hn : l.length ≤ 1000000) (hg : ¬ v.size ≤ p.size) :
    Calls Try.prog 148 #[.agg #[.int .i64 4, .string n, .string v], .agg #[.string m, .string h, .string p, .slice a0 l.length cap, .string b]] W fun e w' => e = .returned (.bool false) ∧ Below W.heap.size W w' := by
  have HA := hid (fun w' (hw : Below W.heap.size W w') => C04.rall_any (.slice a0 l.length cap) l n w' (hl.below hw hp) (fun b hb => Nat.lt_of_lt_of_le (hp b hb) hw.size) (by omega))
  have HZ := hid ((Blk.new W #[.int .i64 4, .string n, .string v] 232).alloc (.cells #[.string m, .string h, .string p, .slice a0 l.length cap, .string b] 113))
  have HY := hid (Blk.new' (W.alloc (.cells #[.int .i64 4, .string n, .string v] 232)) #[.string m, .string h, .string p, .slice a0 l.length cap, .string b] 113 (n := W.heap.size + 1) (by simp))
  have HB0 : Hid (Below W.heap.size W ((W.alloc (.cells #[.int .i64 4, .string n, .string v] 232)).alloc (.cells #[.string m, .string h, .string p, .slice a0 l.length cap, .string b] 113))) := by show Below _ _ _; go_grown
  clear hl hp
  have g1 : ¬ (v.size : Int) ≤ (p.size : Int) := by omega
  have g2 : (p.size : Int) < (v.size : Int) := by omega
  go_enter Try.func148, Try.ntmps148
  go_wp2_with fail
  refine (HA.out _ HB0.out).mono ?_
  rintro e w1 ⟨a1, c1, rfl, hb1, hrow⟩
  have hk := HZ.out.later hb1
  have hy := HY.out.later hb1
  have d0 : w1.cell? ⟨W.heap.size, 0, none⟩ = some (.int .i64 4) := hk.cell 0
  have d2 : w1.cell? ⟨W.heap.size, 2, none⟩ = some (.string v) := hk.cell 2
  have y0 : w1.cell? ⟨W.heap.size + 1, 0, none⟩ = some (.string m) := hy.cell 0
  have y1 : w1.cell? ⟨W.heap.size + 1, 1, none⟩ = some (.string h) := hy.cell 1
  have y2 : w1.cell? ⟨W.heap.size + 1, 2, none⟩ = some (.string p) := hy.cell 2
  have hlt := hk.lt
  have hlt2 := hy.lt
  have HB1 := hid (HB0.out.trans (hb1.mono HB0.out.size))
  clear hb1 hk hy
  clear hrow
  go_wp2_with fail
  go_quiet (fail)
  go_wp2_with fail
  go_ret
  exact ⟨rfl, HB1.out.trans ⟨rfl, rfl, rfl, Nat.le_refl _, fun _ _ => rfl⟩⟩
set_option maxRecDepth 100000 in
set_option maxHeartbeats 1000000 in
theorem rmatch6 {pp : Nat → Prop} (n v m h p b : ByteArray) (l : List Hd) (a0 : Option Addr) (cap : Nat) (r : Bool) (W : World) (hl : RowsOf pp Hd.enc 2 W (.slice a0 l.length cap) l) (hp : ∀ b, pp b → b < W.heap.size) (hn : l.length ≤ 1000000) (hr : decide (0 < (Hd.allR l n).length) = r) :
    Calls Try.prog 148 #[.agg #[.int .i64 6, .string n, .string v], .agg #[.string m, .string h, .string p, .slice a0 l.length cap, .string b]] W fun e w' => e = .returned (.bool r) ∧ Below W.heap.size W w' := by
  have HA := hid (fun w' (hw : Below W.heap.size W w') => C04.rall_any (.slice a0 l.length cap) l n w' (hl.below hw hp) (fun b hb => Nat.lt_of_lt_of_le (hp b hb) hw.size) (by omega))
  have HZ := hid ((Blk.new W #[.int .i64 6, .string n, .string v] 232).alloc (.cells #[.string m, .string h, .string p, .slice a0 l.length cap, .string b] 113))
  have HY := hid (Blk.new' (W.alloc (.cells #[.int .i64 6, .string n, .string v] 232)) #[.string m, .string h, .string p, .slice a0 l.length cap, .string b] 113 (n := W.heap.size + 1) (by simp))
  have HB0 : Hid (Below W.heap.size W ((W.alloc (.cells #[.int .i64 6, .string n, .string v] 232)).alloc (.cells #[.string m, .string h, .string p, .slice a0 l.length cap, .string b] 113))) := by show Below _ _ _; go_grown
  have HR := hid hr
  clear hl hp hr
  go_enter Try.func148, Try.ntmps148
  go_wp2_with fail
  refine (HA.out _ HB0.out).mono ?_
  rintro e w1 ⟨a1, c1, rfl, hb1, hrow⟩
  have hk := HZ.out.later hb1
  have hy := HY.out.later hb1
  have d0 : w1.cell? ⟨W.heap.size, 0, none⟩ = some (.int .i64 6) := hk.cell 0
  have d2 : w1.cell? ⟨W.heap.size, 2, none⟩ = some (.string v) := hk.cell 2
  have y0 : w1.cell? ⟨W.heap.size + 1, 0, none⟩ = some (.string m) := hy.cell 0
  have y1 : w1.cell? ⟨W.heap.size + 1, 1, none⟩ = some (.string h) := hy.cell 1
  have y2 : w1.cell? ⟨W.heap.size + 1, 2, none⟩ = some (.string p) := hy.cell 2
  have hlt := hk.lt
  have hlt2 := hy.lt
  have HB1 := hid (HB0.out.trans (hb1.mono HB0.out.size))
  clear hb1 hk hy
  clear hrow
  go_wp2_with fail
  go_ret
  exact ⟨by rw [← HR.out]; rfl, HB1.out⟩
set_option maxRecDepth 100000 in
set_option maxHeartbeats 1000000 in
theorem rmatch0 {pp : Nat → Prop} (k : Int) (n v m h p b : ByteArray) (l : List Hd) (a0 : Option Addr) (cap : Nat) (W : World) (hl : RowsOf pp Hd.enc 2 W (.slice a0 l.length cap) l) (hp : ∀ b, pp b → b < W.heap.size) (hn : l.length ≤ 1000000) (hk : k < 1 ∨ 6 < k) :
    Calls Try.prog 148 #[.agg #[.int .i64 k, .string n, .string v], .agg #[.string m, .string h, .string p, .slice a0 l.length cap, .string b]] W fun e w' => e = .returned (.bool false) ∧ Below W.heap.size W w' := by
  have HA := hid (fun w' (hw : Below W.heap.size W w') => C04.rall_any (.slice a0 l.length cap) l n w' (hl.below hw hp) (fun b hb => Nat.lt_of_lt_of_le (hp b hb) hw.size) (by omega))
  have HZ := hid ((Blk.new W #[.int .i64 k, .string n, .string v] 232).alloc (.cells #[.string m, .string h, .string p, .slice a0 l.length cap, .string b] 113))
  have HY := hid (Blk.new' (W.alloc (.cells #[.int .i64 k, .string n, .string v] 232)) #[.string m, .string h, .string p, .slice a0 l.length cap, .string b] 113 (n := W.heap.size + 1) (by simp))
  have HB0 : Hid (Below W.heap.size W ((W.alloc (.cells #[.int .i64 k, .string n, .string v] 232)).alloc (.cells #[.string m, .string h, .string p, .slice a0 l.length cap, .string b] 113))) := by show Below _ _ _; go_grown
  have e1 : (k == 1) = false := beq_eq_false_iff_ne.2 (by omega)
  have e2 : (k == 2) = false := beq_eq_false_iff_ne.2 (by omega)
  have e3 : (k == 3) = false := beq_eq_false_iff_ne.2 (by omega)
  have e4 : (k == 4) = false := beq_eq_false_iff_ne.2 (by omega)
  have e5 : (k == 5) = false := beq_eq_false_iff_ne.2 (by omega)
  have e6 : (k == 6) = false := beq_eq_false_iff_ne.2 (by omega)
  clear hl hp hk
  go_enter Try.func148, Try.ntmps148
  go_wp2_with fail
  refine (HA.out _ HB0.out).mono ?_
  rintro e w1 ⟨a1, c1, rfl, hb1, hrow⟩
  have hk := HZ.out.later hb1
  have hy := HY.out.later hb1
  have d0 : w1.cell? ⟨W.heap.size, 0, none⟩ = some (.int .i64 k) := hk.cell 0
  have d2 : w1.cell? ⟨W.heap.size, 2, none⟩ = some (.string v) := hk.cell 2
  have y0 : w1.cell? ⟨W.heap.size + 1, 0, none⟩ = some (.string m) := hy.cell 0
  have y1 : w1.cell? ⟨W.heap.size + 1, 1, none⟩ = some (.string h) := hy.cell 1
  have y2 : w1.cell? ⟨W.heap.size + 1, 2, none⟩ = some (.string p) := hy.cell 2
  have hlt := hk.lt
  have hlt2 := hy.lt
  have HB1 := hid (HB0.out.trans (hb1.mono HB0.out.size))
  clear hb1 hk hy
  clear hrow
  go_wp2_with fail
  go_ret
  exact ⟨rfl, HB1.out⟩
set_option maxRecDepth 100000 in
set_option maxHeartbeats 1000000 in
theorem rmatch5 {pp : Nat → Prop} (n v m h p b : ByteArray) (l : List Hd) (a0 : Option Addr) (cap : Nat) (r : Bool) (W : World) (hl : RowsOf pp Hd.enc 2 W (.slice a0 l.length cap) l) (hp : ∀ b, pp b → b < W.heap.size) (hn : l.length ≤ 1000000) (hr : (Hd.allR l n).any (fun x => decide (x = v)) = r) :
    Calls Try.prog 148 #[.agg #[.int .i64 5, .string n, .string v], .agg #[.string m, .string h, .string p, .slice a0 l.length cap, .string b]] W fun e w' => e = .returned (.bool r) ∧ Below W.heap.size W w' := by
  have HA := hid (fun w' (hw : Below W.heap.size W w') => C04.rall_any (.slice a0 l.length cap) l n w' (hl.below hw hp) (fun b hb => Nat.lt_of_lt_of_le (hp b hb) hw.size) (by omega))
  have HZ := hid ((Blk.new W #[.int .i64 5, .string n, .string v] 232).alloc (.cells #[.string m, .string h, .string p, .slice a0 l.length cap, .string b] 113))
  have HY := hid (Blk.new' (W.alloc (.cells #[.int .i64 5, .string n, .string v] 232)) #[.string m, .string h, .string p, .slice a0 l.length cap, .string b] 113 (n := W.heap.size + 1) (by simp))
  have HB0 : Hid (Below W.heap.size W ((W.alloc (.cells #[.int .i64 5, .string n, .string v] 232)).alloc (.cells #[.string m, .string h, .string p, .slice a0 l.length cap, .string b] 113))) := by show Below _ _ _; go_grown
  have HR := hid hr
  clear hl hp hr
  go_enter Try.func148, Try.ntmps148
  go_wp2_with fail
  refine (HA.out _ HB0.out).mono ?_
  rintro e w1 ⟨a1, c1, rfl, hb1, hrow⟩
  have hk := HZ.out.later hb1
  have hy := HY.out.later hb1
  have d0 : w1.cell? ⟨W.heap.size, 0, none⟩ = some (.int .i64 5) := hk.cell 0
  have d2 : w1.cell? ⟨W.heap.size, 2, none⟩ = some (.string v) := hk.cell 2
  have y0 : w1.cell? ⟨W.heap.size + 1, 0, none⟩ = some (.string m) := hy.cell 0
  have y1 : w1.cell? ⟨W.heap.size + 1, 1, none⟩ = some (.string h) := hy.cell 1
  have y2 : w1.cell? ⟨W.heap.size + 1, 2, none⟩ = some (.string p) := hy.cell 2
  have hlt := hk.lt
  have hlt2 := hy.lt
  have HB1 := hid (HB0.out.trans (hb1.mono HB0.out.size))
  clear hb1 hk hy
  have hlen : (Hd.allR l n).length ≤ 1000000 := by unfold Hd.allR; rw [List.length_map]; exact Nat.le_trans (List.length_filter_le _ _) hn
  generalize Hd.allR l n = acc at hrow HR hlen
  obtain ⟨aa, cc, e9, hcc, hcm, _, hcell⟩ := RowsOf.of_owns sEnc_length hrow.out
  cases e9
  have HC := hid hcell
  clear hrow hcell
  go_wp2_with fail
  go_loopw [6] (fun i wr => ∃ k : Nat, k ≤ acc.length ∧ i = .int .i64 k ∧ Below w1.heap.size w1 wr ∧ ∀ j (_ : j < k) (hj : j < acc.length), acc[j] ≠ v) (fun i _ => acc.length - (intOf i).toNat)
  case atStart => exact ⟨0, Nat.zero_le _, rfl, Below.refl _ _, fun j hj => absurd hj (Nat.not_lt_zero _)⟩
  case round =>
    obtain ⟨k, hk, rfl, hbr, hno⟩ := hrel
    have HN := hid hno
    have HBR := hid hbr
    have HB2 := hid (HB1.out.trans (hbr.mono HB1.out.size))
    have d2' : wr.cell? ⟨W.heap.size, 2, none⟩ = some (.string v) := (hbr.cell (p := ⟨W.heap.size, 2, none⟩) hlt).trans d2
    have hlt' := Nat.lt_of_lt_of_le hlt hbr.size
    clear hno hbr
    by_cases hlt3 : k < acc.length
    · obtain ⟨bb, off, rfl, hpb, hc⟩ := HC.out.resolve_left (by intro e; rw [e] at hlt3; simp at hlt3)
      have hpl : bb < w1.heap.size := hpb.2
      have c0 := C04.s_cell (w := wr) (fun i hi j u hu => (HBR.out.cell (p := ⟨bb, _, none⟩) hpl).trans (hc i hi j u hu)) k hlt3
      have hbl3 := Nat.lt_of_lt_of_le hpl HBR.out.size
      obtain ⟨bq, hq⟩ : ∃ bq, decide (acc[k] = v) = bq := ⟨_, rfl⟩
      obtain ⟨s1, s2⟩ := strEq_of hq
      have HNext : Hid (bq = false → ∀ j (_ : j < k + 1) (hj : j < acc.length), acc[j] ≠ v) := by
        intro e j hj hjl
        by_cases e2 : j = k
        · subst e2; rw [e] at hq; exact of_decide_eq_false hq
        · exact HN.out j (by omega) hjl
      have HHit : Hid (bq = true → r = true) := fun e => by
        rw [e] at hq
        rw [← HR.out, List.any_eq_true]
        exact ⟨acc[k], List.getElem_mem hlt3, by simpa using of_decide_eq_true hq⟩
      clear hc hq
      generalize acc[k] = y at c0 s1 s2
      cases bq
      · go_wp2_with fail
        go_quiet (fail)
        go_wp2_with fail
        go_roundw
        case rel => exact ⟨k + 1, by omega, by go_num, HBR.out.trans ⟨rfl, rfl, rfl, Nat.le_refl _, fun _ _ => rfl⟩, HNext.out (by simp)⟩
        case measure => simp [intOf]; omega
      · go_wp2_with fail
        go_quiet (fail)
        go_wp2_with fail
        go_ret
        exact ⟨by rw [HHit.out (by simp)]; rfl, HB2.out.trans ⟨rfl, rfl, rfl, Nat.le_refl _, fun _ _ => rfl⟩⟩
    · obtain rfl : k = acc.length := by omega
      have hd : Hid (r = false) := hid (by
        rw [← HR.out, List.any_eq_false]
        intro x hx
        obtain ⟨i, hi, rfl⟩ := List.getElem_of_mem hx
        simpa using HN.out i hi hi)
      go_wp2_with fail
      go_ret
      exact ⟨by rw [hd.out]; rfl, HB2.out⟩
theorem rmatch_any {pp : Nat → Prop} (k : Int) (n v m h p b : ByteArray) (l : List Hd) (hd : Value) (r : Bool) (W : World) (hl : RowsOf pp Hd.enc 2 W hd l) (hp : ∀ b, pp b → b < W.heap.size) (hn : l.length ≤ 1000000) (hr : matchR k n v m h p l = r) :
    Calls Try.prog 148 #[.agg #[.int .i64 k, .string n, .string v], .agg #[.string m, .string h, .string p, hd, .string b]] W fun e w' => e = .returned (.bool r) ∧ Below W.heap.size W w' := by
  obtain ⟨a0, cap, rfl⟩ := hl.form
  unfold matchR at hr
  by_cases h1 : k = 1
  · rw [if_pos h1] at hr
    subst h1
    exact rmatch1 n v m h p b l a0 cap r W hl hp hn hr
  rw [if_neg h1] at hr
  by_cases h2 : k = 2
  · rw [if_pos h2] at hr
    subst h2
    exact rmatch2 n v m h p b l a0 cap r W hl hp hn hr
  rw [if_neg h2] at hr
  by_cases h3 : k = 3
  · rw [if_pos h3] at hr
    subst h3
    exact rmatch3 n v m h p b l a0 cap r W hl hp hn hr
  rw [if_neg h3] at hr
  by_cases h4 : k = 4
  · rw [if_pos h4] at hr
    subst h4
    unfold prefR at hr
    by_cases hg : v.size ≤ p.size
    · rw [decide_eq_true hg, Bool.true_and] at hr
      exact rmatch4a n v m h p b l a0 cap r W hl hp hn hg hr
    · rw [decide_eq_false hg, Bool.false_and] at hr
      subst hr
      exact rmatch4b n v m h p b l a0 cap W hl hp hn hg
  rw [if_neg h4] at hr
  by_cases h5 : k = 5
  · rw [if_pos h5] at hr
    subst h5
    exact rmatch5 n v m h p b l a0 cap r W hl hp hn hr
  rw [if_neg h5] at hr
  by_cases h6 : k = 6
  · rw [if_pos h6] at hr
    subst h6
    exact rmatch6 n v m h p b l a0 cap r W hl hp hn hr
  rw [if_neg h6] at hr
  subst hr
  exact rmatch0 k n v m h p b l a0 cap W hl hp hn (by omega)
end C11
end Go.Proofs.Ythmopkaecbebpaa
