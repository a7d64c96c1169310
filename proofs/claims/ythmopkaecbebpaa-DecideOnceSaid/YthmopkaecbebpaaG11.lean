/- Walks of layer 11 (pred): what is asked of a kind; no condition. -/
import Derived.Test.YthmopkaecbebpaaF11
namespace Go.Proofs.Ythmopkaecbebpaa
open Go.RowKit Go.Peri
namespace C11
@[go_sem] theorem run_store_fn {P : Program} {w : World} {a : Addr} {m : Mode} (f : Fn) (l c : Array Value) : (store a (.func f l c) m).run P w = stored P w a (.func f l c) m := run_store P w a _ m rfl
/-- A kind that there is. -/
def OfQ (k : Nat → Nat → Nat → Nat → Value) (W : World) (e : Ending) (w' : World) : Prop :=
  ∃ a b c d, e = .returned (.tuple #[k a b c d, .bool true]) ∧ Below W.heap.size W w' ∧ Hid (KindsAt w' a b c d)
def kind1 (a b c d : Nat) : Value := (fun (_ _ _ _ : Nat) => .agg #[.bool false, .bool true, .func (.func 173) #[] #[], .func (.func 176) #[] #[]]) a b c d
def kind2 (a b c d : Nat) : Value := (fun (_ _ _ _ : Nat) => .agg #[.bool false, .bool true, .func (.func 190) #[] #[.pointer (some ⟨a, 0, none⟩), .pointer (some ⟨b, 0, none⟩)], .func (.func 179) #[] #[]]) a b c d
def kind3 (a b c d : Nat) : Value := (fun (_ _ _ _ : Nat) => .agg #[.bool false, .bool true, .func (.func 175) #[] #[], .func (.func 180) #[] #[]]) a b c d
def kind4 (a b c d : Nat) : Value := (fun (_ _ _ _ : Nat) => .agg #[.bool false, .bool true, .func (.func 175) #[] #[], .func (.func 181) #[] #[]]) a b c d
def kind5 (a b c d : Nat) : Value := (fun (_ _ _ _ : Nat) => .agg #[.bool true, .bool true, .func (.func 190) #[] #[.pointer (some ⟨c, 0, none⟩), .pointer (some ⟨d, 0, none⟩)], .func (.func 184) #[] #[]]) a b c d
def kind6 (a b c d : Nat) : Value := (fun (_ _ _ _ : Nat) => .agg #[.bool true, .bool false, .func (.func 187) #[] #[], .func (.func 188) #[] #[]]) a b c d
set_option maxRecDepth 100000 in
set_option maxHeartbeats 1000000 in
theorem of1 (W : World) : Calls Try.prog 171 #[.int .i64 1] W (OfQ kind1 W) := by
  have HK := hid kinds_any
  have HZ := hid (Blk.new W #[.bool false, .bool false, .nilFunc, .nilFunc] 251)
  have HB0 : Hid (Below W.heap.size W (W.alloc (.cells #[.bool false, .bool false, .nilFunc, .nilFunc] 251))) := by show Below _ _ _; go_grown
  go_enter Try.func171, Try.ntmps171
  go_wp2_with fail
  refine (HK.out _).mono ?_
  rintro e w1 ⟨a, b, c, d, g, rfl, hb1, hka, hg'⟩
  have hg := hg'.out
  have hk : Blk w1 W.heap.size #[.bool false, .bool false, .nilFunc, .nilFunc] 251 := HZ.out.later hb1
  have HB1 := hid (HB0.out.trans (hb1.mono (by simp)))
  have hgl := hg.lt
  have hlt := hk.lt
  have na : a ≠ W.heap.size := fun e => by
    have h := hka.out.a
    rw [e] at h
    have := h.symm.trans hk
    simp at this
  have nb : b ≠ W.heap.size := fun e => by
    have h := hka.out.b
    rw [e] at h
    have := h.symm.trans hk
    simp at this
  have nc : c ≠ W.heap.size := fun e => by
    have h := hka.out.c
    rw [e] at h
    have := h.symm.trans hk
    simp at this
  have nd : d ≠ W.heap.size := fun e => by
    have h := hka.out.d
    rw [e] at h
    have := h.symm.trans hk
    simp at this
  have r0 : w1.cell? ⟨g, 0, none⟩ = some (.bool false) := hg.cell 0
  have r1 : w1.cell? ⟨g, 1, none⟩ = some (.bool true) := hg.cell 1
  have r2 : w1.cell? ⟨g, 2, none⟩ = some (.func (.func 173) #[] #[]) := hg.cell 2
  have r3 : w1.cell? ⟨g, 3, none⟩ = some (.func (.func 176) #[] #[]) := hg.cell 3
  have d0 : w1.cell? ⟨W.heap.size, 0, none⟩ = some (.bool false) := hk.cell 0
  have f0 := hk.free 0
  have d1 : w1.cell? ⟨W.heap.size, 1, none⟩ = some (.bool false) := hk.cell 1
  have f1 := hk.free 1
  have d2 : w1.cell? ⟨W.heap.size, 2, none⟩ = some (.nilFunc) := hk.cell 2
  have f2 := hk.free 2
  have d3 : w1.cell? ⟨W.heap.size, 3, none⟩ = some (.nilFunc) := hk.cell 3
  have f3 := hk.free 3
  clear hb1 hg hg' hk
  go_wp2_with fail
  refine bodyPost_ret (by simp [results, Try.results171, go_sem, d0, d1, d2, d3]; try rfl) rfl ?_
  unfold OfQ
  refine ⟨a, b, c, d, rfl, HB1.out.trans (by have := HB1.out.size; go_grown; all_goals omega), ?_⟩
  have k := hka.out
  exact hid ⟨(((k.a.other na _).other na _).other na _).other na _, (((k.b.other nb _).other nb _).other nb _).other nb _, (((k.c.other nc _).other nc _).other nc _).other nc _, (((k.d.other nd _).other nd _).other nd _).other nd _⟩
set_option maxRecDepth 100000 in
set_option maxHeartbeats 1000000 in
theorem of2 (W : World) : Calls Try.prog 171 #[.int .i64 2] W (OfQ kind2 W) := by
  have HK := hid kinds_any
  have HZ := hid (Blk.new W #[.bool false, .bool false, .nilFunc, .nilFunc] 251)
  have HB0 : Hid (Below W.heap.size W (W.alloc (.cells #[.bool false, .bool false, .nilFunc, .nilFunc] 251))) := by show Below _ _ _; go_grown
  go_enter Try.func171, Try.ntmps171
  go_wp2_with fail
  refine (HK.out _).mono ?_
  rintro e w1 ⟨a, b, c, d, g, rfl, hb1, hka, hg'⟩
  have hg := hg'.out
  have hk : Blk w1 W.heap.size #[.bool false, .bool false, .nilFunc, .nilFunc] 251 := HZ.out.later hb1
  have HB1 := hid (HB0.out.trans (hb1.mono (by simp)))
  have hgl := hg.lt
  have hlt := hk.lt
  have na : a ≠ W.heap.size := fun e => by
    have h := hka.out.a
    rw [e] at h
    have := h.symm.trans hk
    simp at this
  have nb : b ≠ W.heap.size := fun e => by
    have h := hka.out.b
    rw [e] at h
    have := h.symm.trans hk
    simp at this
  have nc : c ≠ W.heap.size := fun e => by
    have h := hka.out.c
    rw [e] at h
    have := h.symm.trans hk
    simp at this
  have nd : d ≠ W.heap.size := fun e => by
    have h := hka.out.d
    rw [e] at h
    have := h.symm.trans hk
    simp at this
  have r0 : w1.cell? ⟨g, 4, none⟩ = some (.bool false) := hg.cell 4
  have r1 : w1.cell? ⟨g, 5, none⟩ = some (.bool true) := hg.cell 5
  have r2 : w1.cell? ⟨g, 6, none⟩ = some (.func (.func 190) #[] #[.pointer (some ⟨a, 0, none⟩), .pointer (some ⟨b, 0, none⟩)]) := hg.cell 6
  have r3 : w1.cell? ⟨g, 7, none⟩ = some (.func (.func 179) #[] #[]) := hg.cell 7
  have d0 : w1.cell? ⟨W.heap.size, 0, none⟩ = some (.bool false) := hk.cell 0
  have f0 := hk.free 0
  have d1 : w1.cell? ⟨W.heap.size, 1, none⟩ = some (.bool false) := hk.cell 1
  have f1 := hk.free 1
  have d2 : w1.cell? ⟨W.heap.size, 2, none⟩ = some (.nilFunc) := hk.cell 2
  have f2 := hk.free 2
  have d3 : w1.cell? ⟨W.heap.size, 3, none⟩ = some (.nilFunc) := hk.cell 3
  have f3 := hk.free 3
  clear hb1 hg hg' hk
  go_wp2_with fail
  refine bodyPost_ret (by simp [results, Try.results171, go_sem, d0, d1, d2, d3]; try rfl) rfl ?_
  unfold OfQ
  refine ⟨a, b, c, d, rfl, HB1.out.trans (by have := HB1.out.size; go_grown; all_goals omega), ?_⟩
  have k := hka.out
  exact hid ⟨(((k.a.other na _).other na _).other na _).other na _, (((k.b.other nb _).other nb _).other nb _).other nb _, (((k.c.other nc _).other nc _).other nc _).other nc _, (((k.d.other nd _).other nd _).other nd _).other nd _⟩
set_option maxRecDepth 100000 in
set_option maxHeartbeats 1000000 in
theorem of3 (W : World) : Calls Try.prog 171 #[.int .i64 3] W (OfQ kind3 W) := by
  have HK := hid kinds_any
  have HZ := hid (Blk.new W #[.bool false, .bool false, .nilFunc, .nilFunc] 251)
  have HB0 : Hid (Below W.heap.size W (W.alloc (.cells #[.bool false, .bool false, .nilFunc, .nilFunc] 251))) := by show Below _ _ _; go_grown
  go_enter Try.func171, Try.ntmps171
  go_wp2_with fail
  refine (HK.out _).mono ?_
  rintro e w1 ⟨a, b, c, d, g, rfl, hb1, hka, hg'⟩
  have hg := hg'.out
  have hk : Blk w1 W.heap.size #[.bool false, .bool false, .nilFunc, .nilFunc] 251 := HZ.out.later hb1
  have HB1 := hid (HB0.out.trans (hb1.mono (by simp)))
  have hgl := hg.lt
  have hlt := hk.lt
  have na : a ≠ W.heap.size := fun e => by
    have h := hka.out.a
    rw [e] at h
    have := h.symm.trans hk
    simp at this
  have nb : b ≠ W.heap.size := fun e => by
    have h := hka.out.b
    rw [e] at h
    have := h.symm.trans hk
    simp at this
  have nc : c ≠ W.heap.size := fun e => by
    have h := hka.out.c
    rw [e] at h
    have := h.symm.trans hk
    simp at this
  have nd : d ≠ W.heap.size := fun e => by
    have h := hka.out.d
    rw [e] at h
    have := h.symm.trans hk
    simp at this
  have r0 : w1.cell? ⟨g, 8, none⟩ = some (.bool false) := hg.cell 8
  have r1 : w1.cell? ⟨g, 9, none⟩ = some (.bool true) := hg.cell 9
  have r2 : w1.cell? ⟨g, 10, none⟩ = some (.func (.func 175) #[] #[]) := hg.cell 10
  have r3 : w1.cell? ⟨g, 11, none⟩ = some (.func (.func 180) #[] #[]) := hg.cell 11
  have d0 : w1.cell? ⟨W.heap.size, 0, none⟩ = some (.bool false) := hk.cell 0
  have f0 := hk.free 0
  have d1 : w1.cell? ⟨W.heap.size, 1, none⟩ = some (.bool false) := hk.cell 1
  have f1 := hk.free 1
  have d2 : w1.cell? ⟨W.heap.size, 2, none⟩ = some (.nilFunc) := hk.cell 2
  have f2 := hk.free 2
  have d3 : w1.cell? ⟨W.heap.size, 3, none⟩ = some (.nilFunc) := hk.cell 3
  have f3 := hk.free 3
  clear hb1 hg hg' hk
  go_wp2_with fail
  refine bodyPost_ret (by simp [results, Try.results171, go_sem, d0, d1, d2, d3]; try rfl) rfl ?_
  unfold OfQ
  refine ⟨a, b, c, d, rfl, HB1.out.trans (by have := HB1.out.size; go_grown; all_goals omega), ?_⟩
  have k := hka.out
  exact hid ⟨(((k.a.other na _).other na _).other na _).other na _, (((k.b.other nb _).other nb _).other nb _).other nb _, (((k.c.other nc _).other nc _).other nc _).other nc _, (((k.d.other nd _).other nd _).other nd _).other nd _⟩
set_option maxRecDepth 100000 in
set_option maxHeartbeats 1000000 in
theorem of4 (W : World) : Calls Try.prog 171 #[.int .i64 4] W (OfQ kind4 W) := by
  have HK := hid kinds_any
  have HZ := hid (Blk.new W #[.bool false, .bool false, .nilFunc, .nilFunc] 251)
  have HB0 : Hid (Below W.heap.size W (W.alloc (.cells #[.bool false, .bool false, .nilFunc, .nilFunc] 251))) := by show Below _ _ _; go_grown
  go_enter Try.func171, Try.ntmps171
  go_wp2_with fail
  refine (HK.out _).mono ?_
  rintro e w1 ⟨a, b, c, d, g, rfl, hb1, hka, hg'⟩
  have hg := hg'.out
  have hk : Blk w1 W.heap.size #[.bool false, .bool false, .nilFunc, .nilFunc] 251 := HZ.out.later hb1
  have HB1 := hid (HB0.out.trans (hb1.mono (by simp)))
  have hgl := hg.lt
  have hlt := hk.lt
  have na : a ≠ W.heap.size := fun e => by
    have h := hka.out.a
    rw [e] at h
    have := h.symm.trans hk
    simp at this
  have nb : b ≠ W.heap.size := fun e => by
    have h := hka.out.b
    rw [e] at h
    have := h.symm.trans hk
    simp at this
  have nc : c ≠ W.heap.size := fun e => by
    have h := hka.out.c
    rw [e] at h
    have := h.symm.trans hk
    simp at this
  have nd : d ≠ W.heap.size := fun e => by
    have h := hka.out.d
    rw [e] at h
    have := h.symm.trans hk
    simp at this
  have r0 : w1.cell? ⟨g, 12, none⟩ = some (.bool false) := hg.cell 12
  have r1 : w1.cell? ⟨g, 13, none⟩ = some (.bool true) := hg.cell 13
  have r2 : w1.cell? ⟨g, 14, none⟩ = some (.func (.func 175) #[] #[]) := hg.cell 14
  have r3 : w1.cell? ⟨g, 15, none⟩ = some (.func (.func 181) #[] #[]) := hg.cell 15
  have d0 : w1.cell? ⟨W.heap.size, 0, none⟩ = some (.bool false) := hk.cell 0
  have f0 := hk.free 0
  have d1 : w1.cell? ⟨W.heap.size, 1, none⟩ = some (.bool false) := hk.cell 1
  have f1 := hk.free 1
  have d2 : w1.cell? ⟨W.heap.size, 2, none⟩ = some (.nilFunc) := hk.cell 2
  have f2 := hk.free 2
  have d3 : w1.cell? ⟨W.heap.size, 3, none⟩ = some (.nilFunc) := hk.cell 3
  have f3 := hk.free 3
  clear hb1 hg hg' hk
  go_wp2_with fail
  refine bodyPost_ret (by simp [results, Try.results171, go_sem, d0, d1, d2, d3]; try rfl) rfl ?_
  unfold OfQ
  refine ⟨a, b, c, d, rfl, HB1.out.trans (by have := HB1.out.size; go_grown; all_goals omega), ?_⟩
  have k := hka.out
  exact hid ⟨(((k.a.other na _).other na _).other na _).other na _, (((k.b.other nb _).other nb _).other nb _).other nb _, (((k.c.other nc _).other nc _).other nc _).other nc _, (((k.d.other nd _).other nd _).other nd _).other nd _⟩
set_option maxRecDepth 100000 in
set_option maxHeartbeats 1000000 in
theorem of5 (W : World) : Calls Try.prog 171 #[.int .i64 5] W (OfQ kind5 W) := by
  have HK := hid kinds_any
  have HZ := hid (Blk.new W #[.bool false, .bool false, .nilFunc, .nilFunc] 251)
  have HB0 : Hid (Below W.heap.size W (W.alloc (.cells #[.bool false, .bool false, .nilFunc, .nilFunc] 251))) := by show Below _ _ _; go_grown
  go_enter Try.func171, Try.ntmps171
  go_wp2_with fail
  refine (HK.out _).mono ?_
  rintro e w1 ⟨a, b, c, d, g, rfl, hb1, hka, hg'⟩
  have hg := hg'.out
  have hk : Blk w1 W.heap.size #[.bool false, .bool false, .nilFunc, .nilFunc] 251 := HZ.out.later hb1
  have HB1 := hid (HB0.out.trans (hb1.mono (by simp)))
  have hgl := hg.lt
  have hlt := hk.lt
  have na : a ≠ W.heap.size := fun e => by
    have h := hka.out.a
    rw [e] at h
    have := h.symm.trans hk
    simp at this
  have nb : b ≠ W.heap.size := fun e => by
    have h := hka.out.b
    rw [e] at h
    have := h.symm.trans hk
    simp at this
  have nc : c ≠ W.heap.size := fun e => by
    have h := hka.out.c
    rw [e] at h
    have := h.symm.trans hk
    simp at this
  have nd : d ≠ W.heap.size := fun e => by
    have h := hka.out.d
    rw [e] at h
    have := h.symm.trans hk
    simp at this
  have r0 : w1.cell? ⟨g, 16, none⟩ = some (.bool true) := hg.cell 16
  have r1 : w1.cell? ⟨g, 17, none⟩ = some (.bool true) := hg.cell 17
  have r2 : w1.cell? ⟨g, 18, none⟩ = some (.func (.func 190) #[] #[.pointer (some ⟨c, 0, none⟩), .pointer (some ⟨d, 0, none⟩)]) := hg.cell 18
  have r3 : w1.cell? ⟨g, 19, none⟩ = some (.func (.func 184) #[] #[]) := hg.cell 19
  have d0 : w1.cell? ⟨W.heap.size, 0, none⟩ = some (.bool false) := hk.cell 0
  have f0 := hk.free 0
  have d1 : w1.cell? ⟨W.heap.size, 1, none⟩ = some (.bool false) := hk.cell 1
  have f1 := hk.free 1
  have d2 : w1.cell? ⟨W.heap.size, 2, none⟩ = some (.nilFunc) := hk.cell 2
  have f2 := hk.free 2
  have d3 : w1.cell? ⟨W.heap.size, 3, none⟩ = some (.nilFunc) := hk.cell 3
  have f3 := hk.free 3
  clear hb1 hg hg' hk
  go_wp2_with fail
  refine bodyPost_ret (by simp [results, Try.results171, go_sem, d0, d1, d2, d3]; try rfl) rfl ?_
  unfold OfQ
  refine ⟨a, b, c, d, rfl, HB1.out.trans (by have := HB1.out.size; go_grown; all_goals omega), ?_⟩
  have k := hka.out
  exact hid ⟨(((k.a.other na _).other na _).other na _).other na _, (((k.b.other nb _).other nb _).other nb _).other nb _, (((k.c.other nc _).other nc _).other nc _).other nc _, (((k.d.other nd _).other nd _).other nd _).other nd _⟩
set_option maxRecDepth 100000 in
set_option maxHeartbeats 1000000 in
theorem of6 (W : World) : Calls Try.prog 171 #[.int .i64 6] W (OfQ kind6 W) := by
  have HK := hid kinds_any
  have HZ := hid (Blk.new W #[.bool false, .bool false, .nilFunc, .nilFunc] 251)
  have HB0 : Hid (Below W.heap.size W (W.alloc (.cells #[.bool false, .bool false, .nilFunc, .nilFunc] 251))) := by show Below _ _ _; go_grown
  go_enter Try.func171, Try.ntmps171
  go_wp2_with fail
  refine (HK.out _).mono ?_
  rintro e w1 ⟨a, b, c, d, g, rfl, hb1, hka, hg'⟩
  have hg := hg'.out
  have hk : Blk w1 W.heap.size #[.bool false, .bool false, .nilFunc, .nilFunc] 251 := HZ.out.later hb1
  have HB1 := hid (HB0.out.trans (hb1.mono (by simp)))
  have hgl := hg.lt
  have hlt := hk.lt
  have na : a ≠ W.heap.size := fun e => by
    have h := hka.out.a
    rw [e] at h
    have := h.symm.trans hk
    simp at this
  have nb : b ≠ W.heap.size := fun e => by
    have h := hka.out.b
    rw [e] at h
    have := h.symm.trans hk
    simp at this
  have nc : c ≠ W.heap.size := fun e => by
    have h := hka.out.c
    rw [e] at h
    have := h.symm.trans hk
    simp at this
  have nd : d ≠ W.heap.size := fun e => by
    have h := hka.out.d
    rw [e] at h
    have := h.symm.trans hk
    simp at this
  have r0 : w1.cell? ⟨g, 20, none⟩ = some (.bool true) := hg.cell 20
  have r1 : w1.cell? ⟨g, 21, none⟩ = some (.bool false) := hg.cell 21
  have r2 : w1.cell? ⟨g, 22, none⟩ = some (.func (.func 187) #[] #[]) := hg.cell 22
  have r3 : w1.cell? ⟨g, 23, none⟩ = some (.func (.func 188) #[] #[]) := hg.cell 23
  have d0 : w1.cell? ⟨W.heap.size, 0, none⟩ = some (.bool false) := hk.cell 0
  have f0 := hk.free 0
  have d1 : w1.cell? ⟨W.heap.size, 1, none⟩ = some (.bool false) := hk.cell 1
  have f1 := hk.free 1
  have d2 : w1.cell? ⟨W.heap.size, 2, none⟩ = some (.nilFunc) := hk.cell 2
  have f2 := hk.free 2
  have d3 : w1.cell? ⟨W.heap.size, 3, none⟩ = some (.nilFunc) := hk.cell 3
  have f3 := hk.free 3
  clear hb1 hg hg' hk
  go_wp2_with fail
  refine bodyPost_ret (by simp [results, Try.results171, go_sem, d0, d1, d2, d3]; try rfl) rfl ?_
  unfold OfQ
  refine ⟨a, b, c, d, rfl, HB1.out.trans (by have := HB1.out.size; go_grown; all_goals omega), ?_⟩
  have k := hka.out
  exact hid ⟨(((k.a.other na _).other na _).other na _).other na _, (((k.b.other nb _).other nb _).other nb _).other nb _, (((k.c.other nc _).other nc _).other nc _).other nc _, (((k.d.other nd _).other nd _).other nd _).other nd _⟩
end C11
end Go.Proofs.Ythmopkaecbebpaa
