/- Walks of layer 11 (pred): what is asked of a kind; no condition. Walks of layer 11 (pred): no kind; the document's checks; no condition. Walks of layer 11 (pred): whether a predicate of a kind without a name may be; no condition. Walks of layer 11 (pred): whether a predicate of kinds 2, 5, 6 may be; no condition. Walks of layer 11 (pred): no kind is checked; how a request is matched by method, host, path, beginning; no condition. Walks of layer 11 (pred): the document's check; no condition. Walks of layer 11 (pred): the document's check of no kind; no condition. Walks of layer 11 (pred): how a request is matched by host, path, beginning; no condition. Walks of layer 11 (pred): whether a request has a header; no condition. Walks of layer 11 (pred): whether a request has a header of just one value; no condition. -/
import Derived.Test.YtmmmaldpalhjeaaMg03
import Derived.Deep.RegionHeld3
namespace Go.Proofs.Ytmmmaldpalhjeaa
open Go.RowKit Go.Peri
namespace C11
@[go_sem] theorem run_store_fn {P : Program} {w : World} {a : Addr} {m : Mode} (f : Fn) (l c : Array Value) : (store a (.func f l c) m).run P w = stored P w a (.func f l c) m := run_store P w a _ m rfl
/-- A kind that there is. -/
def OfQ (k : Nat → Nat → Nat → Nat → Value) (W : World) (e : Ending) (w' : World) : Prop :=
  ∃ a b c d, e = .returned (.tuple #[k a b c d, .bool true]) ∧ Below W.heap.size W w' ∧ Hid (KindsAt w' a b c d)
def kind1 (a b c d : Nat) : Value := (fun (_ _ _ _ : Nat) => .agg #[.bool false, .bool true, .func (.func 220) #[] #[], .func (.func 223) #[] #[]]) a b c d
def kind2 (a b c d : Nat) : Value := (fun (_ _ _ _ : Nat) => .agg #[.bool false, .bool true, .func (.func 245) #[] #[.pointer (some ⟨a, 0, none⟩), .pointer (some ⟨b, 0, none⟩)], .func (.func 225) #[] #[]]) a b c d
def kind3 (a b c d : Nat) : Value := (fun (_ _ _ _ : Nat) => .agg #[.bool false, .bool true, .func (.func 222) #[] #[], .func (.func 226) #[] #[]]) a b c d
def kind4 (a b c d : Nat) : Value := (fun (_ _ _ _ : Nat) => .agg #[.bool false, .bool true, .func (.func 222) #[] #[], .func (.func 227) #[] #[]]) a b c d
def kind5 (a b c d : Nat) : Value := (fun (_ _ _ _ : Nat) => .agg #[.bool true, .bool true, .func (.func 245) #[] #[.pointer (some ⟨c, 0, none⟩), .pointer (some ⟨d, 0, none⟩)], .func (.func 230) #[] #[]]) a b c d
def kind6 (a b c d : Nat) : Value := (fun (_ _ _ _ : Nat) => .agg #[.bool true, .bool false, .func (.func 232) #[] #[], .func (.func 233) #[] #[]]) a b c d
set_option maxRecDepth 100000 in
set_option maxHeartbeats 1000000 in
theorem of1 (W : World) : Calls Try.prog 152 #[.int .i64 1] W (OfQ kind1 W) := by
  have HK := hid kinds_any
  have HZ := hid (Blk.new W #[.bool false, .bool false, .nilFunc, .nilFunc] 204)
  have HB0 : Hid (Below W.heap.size W (W.alloc (.cells #[.bool false, .bool false, .nilFunc, .nilFunc] 204))) := by show Below _ _ _; go_grown
  go_enter Try.func152, Try.ntmps152
  go_wp2_with fail
  refine (HK.out _).mono ?_
  rintro e w1 ⟨a, b, c, d, g, rfl, hb1, hka, hg'⟩
  have hg := hg'.out
  have hk : Blk w1 W.heap.size #[.bool false, .bool false, .nilFunc, .nilFunc] 204 := HZ.out.later hb1
  have HB1 := hid (HB0.out.trans (hb1.mono (by simp)))
  have hgl := hg.lt
  have hlt := hk.lt
  have na : a ≠ W.heap.size := fun e => by
    have h := hka.out.a
    rw [e] at h
    have := h.symm.trans hk
    simp at this
  have nb : b ≠ W.heap.size := fun e => by
    have h := hka.out.b
    rw [e] at h
    have := h.symm.trans hk
    simp at this
  have nc : c ≠ W.heap.size := fun e => by
    have h := hka.out.c
    rw [e] at h
    have := h.symm.trans hk
    simp at this
  have nd : d ≠ W.heap.size := fun e => by
    have h := hka.out.d
    rw [e] at h
    have := h.symm.trans hk
    simp at this
  have r0 : w1.cell? ⟨g, 0, none⟩ = some (.bool false) := hg.cell 0
  have r1 : w1.cell? ⟨g, 1, none⟩ = some (.bool true) := hg.cell 1
  have r2 : w1.cell? ⟨g, 2, none⟩ = some (.func (.func 220) #[] #[]) := hg.cell 2
  have r3 : w1.cell? ⟨g, 3, none⟩ = some (.func (.func 223) #[] #[]) := hg.cell 3
  have d0 : w1.cell? ⟨W.heap.size, 0, none⟩ = some (.bool false) := hk.cell 0
  have f0 := hk.free 0
  have d1 : w1.cell? ⟨W.heap.size, 1, none⟩ = some (.bool false) := hk.cell 1
  have f1 := hk.free 1
  have d2 : w1.cell? ⟨W.heap.size, 2, none⟩ = some (.nilFunc) := hk.cell 2
  have f2 := hk.free 2
  have d3 : w1.cell? ⟨W.heap.size, 3, none⟩ = some (.nilFunc) := hk.cell 3
  have f3 := hk.free 3
  clear hb1 hg hg' hk
  go_wp2_with fail
  refine bodyPost_ret (by simp [results, Try.results152, go_sem, d0, d1, d2, d3]; try rfl) rfl ?_
  unfold OfQ
  refine ⟨a, b, c, d, rfl, HB1.out.trans (by have := HB1.out.size; go_grown; all_goals omega), ?_⟩
  have k := hka.out
  exact hid ⟨(((k.a.other na _).other na _).other na _).other na _, (((k.b.other nb _).other nb _).other nb _).other nb _, (((k.c.other nc _).other nc _).other nc _).other nc _, (((k.d.other nd _).other nd _).other nd _).other nd _⟩
set_option maxRecDepth 100000 in
set_option maxHeartbeats 1000000 in
theorem of2 (W : World) : Calls Try.prog 152 #[.int .i64 2] W (OfQ kind2 W) := by
  have HK := hid kinds_any
  have HZ := hid (Blk.new W #[.bool false, .bool false, .nilFunc, .nilFunc] 204)
  have HB0 : Hid (Below W.heap.size W (W.alloc (.cells #[.bool false, .bool false, .nilFunc, .nilFunc] 204))) := by show Below _ _ _; go_grown
  go_enter Try.func152, Try.ntmps152
  go_wp2_with fail
  refine (HK.out _).mono ?_
  rintro e w1 ⟨a, b, c, d, g, rfl, hb1, hka, hg'⟩
  have hg := hg'.out
  have hk : Blk w1 W.heap.size #[.bool false, .bool false, .nilFunc, .nilFunc] 204 := HZ.out.later hb1
  have HB1 := hid (HB0.out.trans (hb1.mono (by simp)))
  have hgl := hg.lt
  have hlt := hk.lt
  have na : a ≠ W.heap.size := fun e => by
    have h := hka.out.a
    rw [e] at h
    have := h.symm.trans hk
    simp at this
  have nb : b ≠ W.heap.size := fun e => by
    have h := hka.out.b
    rw [e] at h
    have := h.symm.trans hk
    simp at this
  have nc : c ≠ W.heap.size := fun e => by
    have h := hka.out.c
    rw [e] at h
    have := h.symm.trans hk
    simp at this
  have nd : d ≠ W.heap.size := fun e => by
    have h := hka.out.d
    rw [e] at h
    have := h.symm.trans hk
    simp at this
  have r0 : w1.cell? ⟨g, 4, none⟩ = some (.bool false) := hg.cell 4
  have r1 : w1.cell? ⟨g, 5, none⟩ = some (.bool true) := hg.cell 5
  have r2 : w1.cell? ⟨g, 6, none⟩ = some (.func (.func 245) #[] #[.pointer (some ⟨a, 0, none⟩), .pointer (some ⟨b, 0, none⟩)]) := hg.cell 6
  have r3 : w1.cell? ⟨g, 7, none⟩ = some (.func (.func 225) #[] #[]) := hg.cell 7
  have d0 : w1.cell? ⟨W.heap.size, 0, none⟩ = some (.bool false) := hk.cell 0
  have f0 := hk.free 0
  have d1 : w1.cell? ⟨W.heap.size, 1, none⟩ = some (.bool false) := hk.cell 1
  have f1 := hk.free 1
  have d2 : w1.cell? ⟨W.heap.size, 2, none⟩ = some (.nilFunc) := hk.cell 2
  have f2 := hk.free 2
  have d3 : w1.cell? ⟨W.heap.size, 3, none⟩ = some (.nilFunc) := hk.cell 3
  have f3 := hk.free 3
  clear hb1 hg hg' hk
  go_wp2_with fail
  refine bodyPost_ret (by simp [results, Try.results152, go_sem, d0, d1, d2, d3]; try rfl) rfl ?_
  unfold OfQ
  refine ⟨a, b, c, d, rfl, HB1.out.trans (by have := HB1.out.size; go_grown; all_goals omega), ?_⟩
  have k := hka.out
  exact hid ⟨(((k.a.other na _).other na _).other na _).other na _, (((k.b.other nb _).other nb _).other nb _).other nb _, (((k.c.other nc _).other nc _).other nc _).other nc _, (((k.d.other nd _).other nd _).other nd _).other nd _⟩
set_option maxRecDepth 100000 in
set_option maxHeartbeats 1000000 in
theorem of3 (W : World) : Calls Try.prog 152 #[.int .i64 3] W (OfQ kind3 W) := by
  have HK := hid kinds_any
  have HZ := hid (Blk.new W #[.bool false, .bool false, .nilFunc, .nilFunc] 204)
  have HB0 : Hid (Below W.heap.size W (W.alloc (.cells #[.bool false, .bool false, .nilFunc, .nilFunc] 204))) := by show Below _ _ _; go_grown
  go_enter Try.func152, Try.ntmps152
  go_wp2_with fail
  refine (HK.out _).mono ?_
  rintro e w1 ⟨a, b, c, d, g, rfl, hb1, hka, hg'⟩
  have hg := hg'.out
  have hk : Blk w1 W.heap.size #[.bool false, .bool false, .nilFunc, .nilFunc] 204 := HZ.out.later hb1
  have HB1 := hid (HB0.out.trans (hb1.mono (by simp)))
  have hgl := hg.lt
  have hlt := hk.lt
  have na : a ≠ W.heap.size := fun e => by
    have h := hka.out.a
    rw [e] at h
    have := h.symm.trans hk
    simp at this
  have nb : b ≠ W.heap.size := fun e => by
    have h := hka.out.b
    rw [e] at h
    have := h.symm.trans hk
    simp at this
  have nc : c ≠ W.heap.size := fun e => by
    have h := hka.out.c
    rw [e] at h
    have := h.symm.trans hk
    simp at this
  have nd : d ≠ W.heap.size := fun e => by
    have h := hka.out.d
    rw [e] at h
    have := h.symm.trans hk
    simp at this
  have r0 : w1.cell? ⟨g, 8, none⟩ = some (.bool false) := hg.cell 8
  have r1 : w1.cell? ⟨g, 9, none⟩ = some (.bool true) := hg.cell 9
  have r2 : w1.cell? ⟨g, 10, none⟩ = some (.func (.func 222) #[] #[]) := hg.cell 10
  have r3 : w1.cell? ⟨g, 11, none⟩ = some (.func (.func 226) #[] #[]) := hg.cell 11
  have d0 : w1.cell? ⟨W.heap.size, 0, none⟩ = some (.bool false) := hk.cell 0
  have f0 := hk.free 0
  have d1 : w1.cell? ⟨W.heap.size, 1, none⟩ = some (.bool false) := hk.cell 1
  have f1 := hk.free 1
  have d2 : w1.cell? ⟨W.heap.size, 2, none⟩ = some (.nilFunc) := hk.cell 2
  have f2 := hk.free 2
  have d3 : w1.cell? ⟨W.heap.size, 3, none⟩ = some (.nilFunc) := hk.cell 3
  have f3 := hk.free 3
  clear hb1 hg hg' hk
  go_wp2_with fail
  refine bodyPost_ret (by simp [results, Try.results152, go_sem, d0, d1, d2, d3]; try rfl) rfl ?_
  unfold OfQ
  refine ⟨a, b, c, d, rfl, HB1.out.trans (by have := HB1.out.size; go_grown; all_goals omega), ?_⟩
  have k := hka.out
  exact hid ⟨(((k.a.other na _).other na _).other na _).other na _, (((k.b.other nb _).other nb _).other nb _).other nb _, (((k.c.other nc _).other nc _).other nc _).other nc _, (((k.d.other nd _).other nd _).other nd _).other nd _⟩
set_option maxRecDepth 100000 in
set_option maxHeartbeats 1000000 in
theorem of4 (W : World) : Calls Try.prog 152 #[.int .i64 4] W (OfQ kind4 W) := by
  have HK := hid kinds_any
  have HZ := hid (Blk.new W #[.bool false, .bool false, .nilFunc, .nilFunc] 204)
  have HB0 : Hid (Below W.heap.size W (W.alloc (.cells #[.bool false, .bool false, .nilFunc, .nilFunc] 204))) := by show Below _ _ _; go_grown
  go_enter Try.func152, Try.ntmps152
  go_wp2_with fail
  refine (HK.out _).mono ?_
  rintro e w1 ⟨a, b, c, d, g, rfl, hb1, hka, hg'⟩
  have hg := hg'.out
  have hk : Blk w1 W.heap.size #[.bool false, .bool false, .nilFunc, .nilFunc] 204 := HZ.out.later hb1
  have HB1 := hid (HB0.out.trans (hb1.mono (by simp)))
  have hgl := hg.lt
  have hlt := hk.lt
  have na : a ≠ W.heap.size := fun e => by
    have h := hka.out.a
    rw [e] at h
    have := h.symm.trans hk
    simp at this
  have nb : b ≠ W.heap.size := fun e => by
    have h := hka.out.b
    rw [e] at h
    have := h.symm.trans hk
    simp at this
  have nc : c ≠ W.heap.size := fun e => by
    have h := hka.out.c
    rw [e] at h
    have := h.symm.trans hk
    simp at this
  have nd : d ≠ W.heap.size := fun e => by
    have h := hka.out.d
    rw [e] at h
    have := h.symm.trans hk
    simp at this
  have r0 : w1.cell? ⟨g, 12, none⟩ = some (.bool false) := hg.cell 12
  have r1 : w1.cell? ⟨g, 13, none⟩ = some (.bool true) := hg.cell 13
  have r2 : w1.cell? ⟨g, 14, none⟩ = some (.func (.func 222) #[] #[]) := hg.cell 14
  have r3 : w1.cell? ⟨g, 15, none⟩ = some (.func (.func 227) #[] #[]) := hg.cell 15
  have d0 : w1.cell? ⟨W.heap.size, 0, none⟩ = some (.bool false) := hk.cell 0
  have f0 := hk.free 0
  have d1 : w1.cell? ⟨W.heap.size, 1, none⟩ = some (.bool false) := hk.cell 1
  have f1 := hk.free 1
  have d2 : w1.cell? ⟨W.heap.size, 2, none⟩ = some (.nilFunc) := hk.cell 2
  have f2 := hk.free 2
  have d3 : w1.cell? ⟨W.heap.size, 3, none⟩ = some (.nilFunc) := hk.cell 3
  have f3 := hk.free 3
  clear hb1 hg hg' hk
  go_wp2_with fail
  refine bodyPost_ret (by simp [results, Try.results152, go_sem, d0, d1, d2, d3]; try rfl) rfl ?_
  unfold OfQ
  refine ⟨a, b, c, d, rfl, HB1.out.trans (by have := HB1.out.size; go_grown; all_goals omega), ?_⟩
  have k := hka.out
  exact hid ⟨(((k.a.other na _).other na _).other na _).other na _, (((k.b.other nb _).other nb _).other nb _).other nb _, (((k.c.other nc _).other nc _).other nc _).other nc _, (((k.d.other nd _).other nd _).other nd _).other nd _⟩
set_option maxRecDepth 100000 in
set_option maxHeartbeats 1000000 in
theorem of5 (W : World) : Calls Try.prog 152 #[.int .i64 5] W (OfQ kind5 W) := by
  have HK := hid kinds_any
  have HZ := hid (Blk.new W #[.bool false, .bool false, .nilFunc, .nilFunc] 204)
  have HB0 : Hid (Below W.heap.size W (W.alloc (.cells #[.bool false, .bool false, .nilFunc, .nilFunc] 204))) := by show Below _ _ _; go_grown
  go_enter Try.func152, Try.ntmps152
  go_wp2_with fail
  refine (HK.out _).mono ?_
  rintro e w1 ⟨a, b, c, d, g, rfl, hb1, hka, hg'⟩
  have hg := hg'.out
  have hk : Blk w1 W.heap.size #[.bool false, .bool false, .nilFunc, .nilFunc] 204 := HZ.out.later hb1
  have HB1 := hid (HB0.out.trans (hb1.mono (by simp)))
  have hgl := hg.lt
  have hlt := hk.lt
  have na : a ≠ W.heap.size := fun e => by
    have h := hka.out.a
    rw [e] at h
    have := h.symm.trans hk
    simp at this
  have nb : b ≠ W.heap.size := fun e => by
    have h := hka.out.b
    rw [e] at h
    have := h.symm.trans hk
    simp at this
  have nc : c ≠ W.heap.size := fun e => by
    have h := hka.out.c
    rw [e] at h
    have := h.symm.trans hk
    simp at this
  have nd : d ≠ W.heap.size := fun e => by
    have h := hka.out.d
    rw [e] at h
    have := h.symm.trans hk
    simp at this
  have r0 : w1.cell? ⟨g, 16, none⟩ = some (.bool true) := hg.cell 16
  have r1 : w1.cell? ⟨g, 17, none⟩ = some (.bool true) := hg.cell 17
  have r2 : w1.cell? ⟨g, 18, none⟩ = some (.func (.func 245) #[] #[.pointer (some ⟨c, 0, none⟩), .pointer (some ⟨d, 0, none⟩)]) := hg.cell 18
  have r3 : w1.cell? ⟨g, 19, none⟩ = some (.func (.func 230) #[] #[]) := hg.cell 19
  have d0 : w1.cell? ⟨W.heap.size, 0, none⟩ = some (.bool false) := hk.cell 0
  have f0 := hk.free 0
  have d1 : w1.cell? ⟨W.heap.size, 1, none⟩ = some (.bool false) := hk.cell 1
  have f1 := hk.free 1
  have d2 : w1.cell? ⟨W.heap.size, 2, none⟩ = some (.nilFunc) := hk.cell 2
  have f2 := hk.free 2
  have d3 : w1.cell? ⟨W.heap.size, 3, none⟩ = some (.nilFunc) := hk.cell 3
  have f3 := hk.free 3
  clear hb1 hg hg' hk
  go_wp2_with fail
  refine bodyPost_ret (by simp [results, Try.results152, go_sem, d0, d1, d2, d3]; try rfl) rfl ?_
  unfold OfQ
  refine ⟨a, b, c, d, rfl, HB1.out.trans (by have := HB1.out.size; go_grown; all_goals omega), ?_⟩
  have k := hka.out
  exact hid ⟨(((k.a.other na _).other na _).other na _).other na _, (((k.b.other nb _).other nb _).other nb _).other nb _, (((k.c.other nc _).other nc _).other nc _).other nc _, (((k.d.other nd _).other nd _).other nd _).other nd _⟩
set_option maxRecDepth 100000 in
set_option maxHeartbeats 1000000 in
theorem of6 (W : World) : Calls Try.prog 152 #[.int .i64 6] W (OfQ kind6 W) := by
  have HK := hid kinds_any
  have HZ := hid (Blk.new W #[.bool false, .bool false, .nilFunc, .nilFunc] 204)
  have HB0 : Hid (Below W.heap.size W (W.alloc (.cells #[.bool false, .bool false, .nilFunc, .nilFunc] 204))) := by show Below _ _ _; go_grown
  go_enter Try.func152, Try.ntmps152
  go_wp2_with fail
  refine (HK.out _).mono ?_
  rintro e w1 ⟨a, b, c, d, g, rfl, hb1, hka, hg'⟩
  have hg := hg'.out
  have hk : Blk w1 W.heap.size #[.bool false, .bool false, .nilFunc, .nilFunc] 204 := HZ.out.later hb1
  have HB1 := hid (HB0.out.trans (hb1.mono (by simp)))
  have hgl := hg.lt
  have hlt := hk.lt
  have na : a ≠ W.heap.size := fun e => by
    have h := hka.out.a
    rw [e] at h
    have := h.symm.trans hk
    simp at this
  have nb : b ≠ W.heap.size := fun e => by
    have h := hka.out.b
    rw [e] at h
    have := h.symm.trans hk
    simp at this
  have nc : c ≠ W.heap.size := fun e => by
    have h := hka.out.c
    rw [e] at h
    have := h.symm.trans hk
    simp at this
  have nd : d ≠ W.heap.size := fun e => by
    have h := hka.out.d
    rw [e] at h
    have := h.symm.trans hk
    simp at this
  have r0 : w1.cell? ⟨g, 20, none⟩ = some (.bool true) := hg.cell 20
  have r1 : w1.cell? ⟨g, 21, none⟩ = some (.bool false) := hg.cell 21
  have r2 : w1.cell? ⟨g, 22, none⟩ = some (.func (.func 232) #[] #[]) := hg.cell 22
  have r3 : w1.cell? ⟨g, 23, none⟩ = some (.func (.func 233) #[] #[]) := hg.cell 23
  have d0 : w1.cell? ⟨W.heap.size, 0, none⟩ = some (.bool false) := hk.cell 0
  have f0 := hk.free 0
  have d1 : w1.cell? ⟨W.heap.size, 1, none⟩ = some (.bool false) := hk.cell 1
  have f1 := hk.free 1
  have d2 : w1.cell? ⟨W.heap.size, 2, none⟩ = some (.nilFunc) := hk.cell 2
  have f2 := hk.free 2
  have d3 : w1.cell? ⟨W.heap.size, 3, none⟩ = some (.nilFunc) := hk.cell 3
  have f3 := hk.free 3
  clear hb1 hg hg' hk
  go_wp2_with fail
  refine bodyPost_ret (by simp [results, Try.results152, go_sem, d0, d1, d2, d3]; try rfl) rfl ?_
  unfold OfQ
  refine ⟨a, b, c, d, rfl, HB1.out.trans (by have := HB1.out.size; go_grown; all_goals omega), ?_⟩
  have k := hka.out
  exact hid ⟨(((k.a.other na _).other na _).other na _).other na _, (((k.b.other nb _).other nb _).other nb _).other nb _, (((k.c.other nc _).other nc _).other nc _).other nc _, (((k.d.other nd _).other nd _).other nd _).other nd _⟩
end C11
end Go.Proofs.Ytmmmaldpalhjeaa
namespace Go.Proofs.Ytmmmaldpalhjeaa
open Go.RowKit Go.Peri
namespace C11
@[go_sem] theorem run_store_nilFn {P : Program} {w : World} {a : Addr} {m : Mode} : (store a .nilFunc m).run P w = stored P w a .nilFunc m := run_store P w a _ m rfl
set_option maxRecDepth 100000 in
theorem of_low (n : Int) (W : World) (h : n < 1) : Calls Try.prog 152 #[.int .i64 n] W fun e w' => e = .returned (.tuple #[.agg #[.bool false, .bool false, .nilFunc, .nilFunc], .bool false]) ∧ Below W.heap.size W w' := by
  go_enter Try.func152, Try.ntmps152
  go_wp2_with fail
  refine bodyPost_ret (by simp [results, Try.results152, go_sem]; try rfl) rfl ?_
  exact ⟨rfl, by go_grown⟩
set_option maxRecDepth 100000 in
theorem of_high (n : Int) (W : World) (h : 6 < n) : Calls Try.prog 152 #[.int .i64 n] W fun e w' => e = .returned (.tuple #[.agg #[.bool false, .bool false, .nilFunc, .nilFunc], .bool false]) ∧ Below W.heap.size W w' := by
  have h1 : ¬ n < 1 := by omega
  go_enter Try.func152, Try.ntmps152
  go_wp2_with fail
  refine bodyPost_ret (by simp [results, Try.results152, go_sem]; try rfl) rfl ?_
  exact ⟨rfl, by go_grown⟩
end C11
end Go.Proofs.Ytmmmaldpalhjeaa
namespace Go.Proofs.Ytmmmaldpalhjeaa
open Go.RowKit Go.Peri
namespace C11
/-- A text that is not empty: as the walk asks it. -/
structure Full (s : ByteArray) : Prop where
  t1 : s.toList.isEmpty = false
  t2 : (!s.toList.isEmpty) = true
  t3 : ¬ s.toList = []
theorem full_of (s : ByteArray) (h0 : s.size ≠ 0) : Full s := by
  have t1 : s.toList.isEmpty = false := by
    rw [Bool.eq_false_iff]; intro h
    apply h0
    rw [List.isEmpty_iff, ByteArray.toList_eq] at h
    have := congrArg List.length h
    simpa using this
  exact ⟨t1, by rw [t1]; rfl, by rw [← List.isEmpty_iff, t1]; simp⟩
theorem none_of (s : ByteArray) (h0 : s.size = 0) : s = ByteArray.empty := ByteArray.ext (Array.eq_empty_of_size_eq_zero h0)
set_option maxRecDepth 100000 in
set_option maxHeartbeats 1000000 in
theorem pcheck1 (n v : ByteArray) (r : Int) (W : World) (hv : v.size ≤ 1000000000000000) (hr : (if n.size ≠ 0 then 2 else if methodOk v = true then 0 else 3) = r) :
    Calls Try.prog 98 #[.agg #[.int .i64 1, .string n, .string v]] W fun e w' => e = .returned (.int .i64 r) ∧ Below W.heap.size W w' := by
  have HO : Hid (∀ w, Calls Try.prog 152 #[.int .i64 1] w fun e w' => ∃ a b c d : Nat, e = .returned (.tuple #[.agg #[.bool false, .bool true, .func (.func 220) #[] #[], .func (.func 223) #[] #[]], .bool true]) ∧ Below w.heap.size w w' ∧ Hid (KindsAt w' a b c d)) := hid (fun w => of1 w)
  have HC := hid (fun w => kmethod_any v w hv)
  have HZ := hid (Blk.new W #[.int .i64 1, .string n, .string v] 146)
  have HB0 : Hid (Below W.heap.size W (W.alloc (.cells #[.int .i64 1, .string n, .string v] 146))) := by show Below _ _ _; go_grown
  by_cases h0 : n.size ≠ 0
  · rw [if_pos h0] at hr
    have hf := full_of n h0
    have t1 := hf.t1
    have t2 := hf.t2
    have t3 := hf.t3
    have HR := hid hr
    clear hf hr h0
    go_enter Try.func98, Try.ntmps98
    go_wp2_with fail
    refine (HO.out _).mono ?_
    rintro e w1 ⟨a, b, c, d, rfl, hb1, hka⟩
    have hk := HZ.out.later hb1
    have d0 : w1.cell? ⟨W.heap.size, 0, none⟩ = some (.int .i64 1) := hk.cell 0
    have d1 : w1.cell? ⟨W.heap.size, 1, none⟩ = some (.string n) := hk.cell 1
    have d2 : w1.cell? ⟨W.heap.size, 2, none⟩ = some (.string v) := hk.cell 2
    have hlt := hk.lt
    have HB1 := hid (HB0.out.trans (hb1.mono (by simp)))
    have HN1 : Hid (Below W.heap.size W (w1.alloc (.cells #[.bool false, .bool true, .func (.func 220) #[] #[], .func (.func 223) #[] #[]] 204))) := hid (HB1.out.trans (by have := HB1.out.size; go_grown; all_goals omega))
    clear hb1 hk hka
    go_wp2_with fail
    go_ret
    exact ⟨by rw [← HR.out]; rfl, HN1.out⟩
  · rw [if_neg h0] at hr
    obtain rfl := none_of n (by omega)
    rw [hr] at HC
    clear hr h0
    go_enter Try.func98, Try.ntmps98
    go_wp2_with fail
    refine (HO.out _).mono ?_
    rintro e w1 ⟨a, b, c, d, rfl, hb1, hka⟩
    have hk := HZ.out.later hb1
    have d0 : w1.cell? ⟨W.heap.size, 0, none⟩ = some (.int .i64 1) := hk.cell 0
    have d1 : w1.cell? ⟨W.heap.size, 1, none⟩ = some (.string ByteArray.empty) := hk.cell 1
    have d2 : w1.cell? ⟨W.heap.size, 2, none⟩ = some (.string v) := hk.cell 2
    have hlt := hk.lt
    have HB1 := hid (HB0.out.trans (hb1.mono (by simp)))
    have HN1 : Hid (Below W.heap.size W (w1.alloc (.cells #[.bool false, .bool true, .func (.func 220) #[] #[], .func (.func 223) #[] #[]] 204))) := hid (HB1.out.trans (by have := HB1.out.size; go_grown; all_goals omega))
    clear hb1 hk hka
    go_wp2_with fail
    refine (HC.out _).mono ?_
    rintro e w2 ⟨rfl, hb2⟩
    have HB2 := hid (HN1.out.trans (hb2.mono HN1.out.size))
    clear hb2
    go_wp2_with fail
    go_ret
    exact ⟨rfl, HB2.out⟩
set_option maxRecDepth 100000 in
set_option maxHeartbeats 1000000 in
theorem pcheck3 (n v : ByteArray) (r : Int) (W : World) (hv : v.size ≤ 1000000000000000) (hr : (if n.size ≠ 0 then 2 else if pathOk v = true then 0 else 12) = r) :
    Calls Try.prog 98 #[.agg #[.int .i64 3, .string n, .string v]] W fun e w' => e = .returned (.int .i64 r) ∧ Below W.heap.size W w' := by
  have HO : Hid (∀ w, Calls Try.prog 152 #[.int .i64 3] w fun e w' => ∃ a b c d : Nat, e = .returned (.tuple #[.agg #[.bool false, .bool true, .func (.func 222) #[] #[], .func (.func 226) #[] #[]], .bool true]) ∧ Below w.heap.size w w' ∧ Hid (KindsAt w' a b c d)) := hid (fun w => of3 w)
  have HC := hid (fun w => kpath_any v w hv)
  have HZ := hid (Blk.new W #[.int .i64 3, .string n, .string v] 146)
  have HB0 : Hid (Below W.heap.size W (W.alloc (.cells #[.int .i64 3, .string n, .string v] 146))) := by show Below _ _ _; go_grown
  by_cases h0 : n.size ≠ 0
  · rw [if_pos h0] at hr
    have hf := full_of n h0
    have t1 := hf.t1
    have t2 := hf.t2
    have t3 := hf.t3
    have HR := hid hr
    clear hf hr h0
    go_enter Try.func98, Try.ntmps98
    go_wp2_with fail
    refine (HO.out _).mono ?_
    rintro e w1 ⟨a, b, c, d, rfl, hb1, hka⟩
    have hk := HZ.out.later hb1
    have d0 : w1.cell? ⟨W.heap.size, 0, none⟩ = some (.int .i64 3) := hk.cell 0
    have d1 : w1.cell? ⟨W.heap.size, 1, none⟩ = some (.string n) := hk.cell 1
    have d2 : w1.cell? ⟨W.heap.size, 2, none⟩ = some (.string v) := hk.cell 2
    have hlt := hk.lt
    have HB1 := hid (HB0.out.trans (hb1.mono (by simp)))
    have HN1 : Hid (Below W.heap.size W (w1.alloc (.cells #[.bool false, .bool true, .func (.func 222) #[] #[], .func (.func 226) #[] #[]] 204))) := hid (HB1.out.trans (by have := HB1.out.size; go_grown; all_goals omega))
    clear hb1 hk hka
    go_wp2_with fail
    go_ret
    exact ⟨by rw [← HR.out]; rfl, HN1.out⟩
  · rw [if_neg h0] at hr
    obtain rfl := none_of n (by omega)
    rw [hr] at HC
    clear hr h0
    go_enter Try.func98, Try.ntmps98
    go_wp2_with fail
    refine (HO.out _).mono ?_
    rintro e w1 ⟨a, b, c, d, rfl, hb1, hka⟩
    have hk := HZ.out.later hb1
    have d0 : w1.cell? ⟨W.heap.size, 0, none⟩ = some (.int .i64 3) := hk.cell 0
    have d1 : w1.cell? ⟨W.heap.size, 1, none⟩ = some (.string ByteArray.empty) := hk.cell 1
    have d2 : w1.cell? ⟨W.heap.size, 2, none⟩ = some (.string v) := hk.cell 2
    have hlt := hk.lt
    have HB1 := hid (HB0.out.trans (hb1.mono (by simp)))
    have HN1 : Hid (Below W.heap.size W (w1.alloc (.cells #[.bool false, .bool true, .func (.func 222) #[] #[], .func (.func 226) #[] #[]] 204))) := hid (HB1.out.trans (by have := HB1.out.size; go_grown; all_goals omega))
    clear hb1 hk hka
    go_wp2_with fail
    refine (HC.out _).mono ?_
    rintro e w2 ⟨rfl, hb2⟩
    have HB2 := hid (HN1.out.trans (hb2.mono HN1.out.size))
    clear hb2
    go_wp2_with fail
    go_ret
    exact ⟨rfl, HB2.out⟩
set_option maxRecDepth 100000 in
set_option maxHeartbeats 1000000 in
theorem pcheck4 (n v : ByteArray) (r : Int) (W : World) (hv : v.size ≤ 1000000000000000) (hr : (if n.size ≠ 0 then 2 else if pathOk v = true then 0 else 12) = r) :
    Calls Try.prog 98 #[.agg #[.int .i64 4, .string n, .string v]] W fun e w' => e = .returned (.int .i64 r) ∧ Below W.heap.size W w' := by
  have HO : Hid (∀ w, Calls Try.prog 152 #[.int .i64 4] w fun e w' => ∃ a b c d : Nat, e = .returned (.tuple #[.agg #[.bool false, .bool true, .func (.func 222) #[] #[], .func (.func 227) #[] #[]], .bool true]) ∧ Below w.heap.size w w' ∧ Hid (KindsAt w' a b c d)) := hid (fun w => of4 w)
  have HC := hid (fun w => kpath_any v w hv)
  have HZ := hid (Blk.new W #[.int .i64 4, .string n, .string v] 146)
  have HB0 : Hid (Below W.heap.size W (W.alloc (.cells #[.int .i64 4, .string n, .string v] 146))) := by show Below _ _ _; go_grown
  by_cases h0 : n.size ≠ 0
  · rw [if_pos h0] at hr
    have hf := full_of n h0
    have t1 := hf.t1
    have t2 := hf.t2
    have t3 := hf.t3
    have HR := hid hr
    clear hf hr h0
    go_enter Try.func98, Try.ntmps98
    go_wp2_with fail
    refine (HO.out _).mono ?_
    rintro e w1 ⟨a, b, c, d, rfl, hb1, hka⟩
    have hk := HZ.out.later hb1
    have d0 : w1.cell? ⟨W.heap.size, 0, none⟩ = some (.int .i64 4) := hk.cell 0
    have d1 : w1.cell? ⟨W.heap.size, 1, none⟩ = some (.string n) := hk.cell 1
    have d2 : w1.cell? ⟨W.heap.size, 2, none⟩ = some (.string v) := hk.cell 2
    have hlt := hk.lt
    have HB1 := hid (HB0.out.trans (hb1.mono (by simp)))
    have HN1 : Hid (Below W.heap.size W (w1.alloc (.cells #[.bool false, .bool true, .func (.func 222) #[] #[], .func (.func 227) #[] #[]] 204))) := hid (HB1.out.trans (by have := HB1.out.size; go_grown; all_goals omega))
    clear hb1 hk hka
    go_wp2_with fail
    go_ret
    exact ⟨by rw [← HR.out]; rfl, HN1.out⟩
  · rw [if_neg h0] at hr
    obtain rfl := none_of n (by omega)
    rw [hr] at HC
    clear hr h0
    go_enter Try.func98, Try.ntmps98
    go_wp2_with fail
    refine (HO.out _).mono ?_
    rintro e w1 ⟨a, b, c, d, rfl, hb1, hka⟩
    have hk := HZ.out.later hb1
    have d0 : w1.cell? ⟨W.heap.size, 0, none⟩ = some (.int .i64 4) := hk.cell 0
    have d1 : w1.cell? ⟨W.heap.size, 1, none⟩ = some (.string ByteArray.empty) := hk.cell 1
    have d2 : w1.cell? ⟨W.heap.size, 2, none⟩ = some (.string v) := hk.cell 2
    have hlt := hk.lt
    have HB1 := hid (HB0.out.trans (hb1.mono (by simp)))
    have HN1 : Hid (Below W.heap.size W (w1.alloc (.cells #[.bool false, .bool true, .func (.func 222) #[] #[], .func (.func 227) #[] #[]] 204))) := hid (HB1.out.trans (by have := HB1.out.size; go_grown; all_goals omega))
    clear hb1 hk hka
    go_wp2_with fail
    refine (HC.out _).mono ?_
    rintro e w2 ⟨rfl, hb2⟩
    have HB2 := hid (HN1.out.trans (hb2.mono HN1.out.size))
    clear hb2
    go_wp2_with fail
    go_ret
    exact ⟨rfl, HB2.out⟩
end C11
end Go.Proofs.Ytmmmaldpalhjeaa
namespace Go.Proofs.Ytmmmaldpalhjeaa
open Go.RowKit Go.Peri
namespace C11
set_option maxRecDepth 100000 in
theorem khas_any (s : ByteArray) (W : World) : Calls Try.prog 232 #[.string s] W fun e w' => e = .returned (.int .i64 0) ∧ W = w' := by
  go_enter Try.func232, Try.ntmps232
  go_wp2_with fail
  go_ret
  exact ⟨rfl, rfl⟩
set_option maxRecDepth 100000 in
set_option maxHeartbeats 1000000 in
theorem pcheck2 (n v : ByteArray) (r : Int) (W : World) (hv : v.size ≤ 1000000000000000) (hr : (if n.size ≠ 0 then 2 else if Hd.nameOk v = true then 0 else 7) = r) :
    Calls Try.prog 98 #[.agg #[.int .i64 2, .string n, .string v]] W fun e w' => e = .returned (.int .i64 r) ∧ Below W.heap.size W w' := by
  have HO : Hid (∀ w, Calls Try.prog 152 #[.int .i64 2] w fun e w' => ∃ a b c d : Nat, e = .returned (.tuple #[.agg #[.bool false, .bool true, .func (.func 245) #[] #[.pointer (some ⟨a, 0, none⟩), .pointer (some ⟨b, 0, none⟩)], .func (.func 225) #[] #[]], .bool true]) ∧ Below w.heap.size w w' ∧ Hid (KindsAt w' a b c d)) := hid (fun w => of2 w)
  have HZ := hid (Blk.new W #[.int .i64 2, .string n, .string v] 146)
  have HB0 : Hid (Below W.heap.size W (W.alloc (.cells #[.int .i64 2, .string n, .string v] 146))) := by show Below _ _ _; go_grown
  by_cases h0 : n.size ≠ 0
  · rw [if_pos h0] at hr
    have hf := full_of n h0
    have t1 := hf.t1
    have t2 := hf.t2
    have t3 := hf.t3
    subst hr
    clear hf h0
    go_enter Try.func98, Try.ntmps98
    go_wp2_with fail
    refine (HO.out _).mono ?_
    rintro e w1 ⟨a, b, c, d, rfl, hb1, hka⟩
    have hk := HZ.out.later hb1
    have d0 : w1.cell? ⟨W.heap.size, 0, none⟩ = some (.int .i64 2) := hk.cell 0
    have d1 : w1.cell? ⟨W.heap.size, 1, none⟩ = some (.string n) := hk.cell 1
    have d2 : w1.cell? ⟨W.heap.size, 2, none⟩ = some (.string v) := hk.cell 2
    have hlt := hk.lt
    have HB1 := hid (HB0.out.trans (hb1.mono (by simp)))
    have HN1 : Hid (Below W.heap.size W (w1.alloc (.cells #[.bool false, .bool true, .func (.func 245) #[] #[.pointer (some ⟨a, 0, none⟩), .pointer (some ⟨b, 0, none⟩)], .func (.func 225) #[] #[]] 204))) := hid (HB1.out.trans (by have := HB1.out.size; go_grown; all_goals omega))
    clear hb1 hk hka
    go_wp2_with fail
    go_ret
    exact ⟨rfl, HN1.out⟩
  · rw [if_neg h0] at hr
    obtain rfl := none_of n (by omega)
    obtain ⟨q, hq⟩ : ∃ q, Hd.nameOk v = q := ⟨_, rfl⟩
    rw [hq] at hr
    have HC := hid (fun a b w ha hb => whenName_any v 7 q a b w hv ha hb hq)
    clear hq h0
    rw [hr] at HC
    clear hr
    go_enter Try.func98, Try.ntmps98
    go_wp2_with fail
    refine (HO.out _).mono ?_
    rintro e w1 ⟨a, b, c, d, rfl, hb1, hka⟩
    have hk := HZ.out.later hb1
    have d0 : w1.cell? ⟨W.heap.size, 0, none⟩ = some (.int .i64 2) := hk.cell 0
    have d1 : w1.cell? ⟨W.heap.size, 1, none⟩ = some (.string ByteArray.empty) := hk.cell 1
    have d2 : w1.cell? ⟨W.heap.size, 2, none⟩ = some (.string v) := hk.cell 2
    have hlt := hk.lt
    have HB1 := hid (HB0.out.trans (hb1.mono (by simp)))
    have HN1 : Hid (Below W.heap.size W (w1.alloc (.cells #[.bool false, .bool true, .func (.func 245) #[] #[.pointer (some ⟨a, 0, none⟩), .pointer (some ⟨b, 0, none⟩)], .func (.func 225) #[] #[]] 204))) := hid (HB1.out.trans (by have := HB1.out.size; go_grown; all_goals omega))
    clear hb1 hk
    go_wp2_with fail
    refine (HC.out _ _ _ (hka.out.a.alloc _) (hka.out.b.alloc _)).mono ?_
    rintro e w2 ⟨rfl, hb2⟩
    have HB2 := hid (HN1.out.trans (hb2.mono HN1.out.size))
    clear hb2
    go_wp2_with fail
    go_ret
    exact ⟨rfl, HB2.out⟩
set_option maxRecDepth 100000 in
set_option maxHeartbeats 1000000 in
theorem pcheck5 (n v : ByteArray) (r : Int) (W : World) (hn : n.size ≤ 1000000000000000) (hv : v.size ≤ 1000000000000000) (hr : (if Hd.nameOk n = true then (if Hd.valueOk v = true then 0 else 15) else 7) = r) :
    Calls Try.prog 98 #[.agg #[.int .i64 5, .string n, .string v]] W fun e w' => e = .returned (.int .i64 r) ∧ Below W.heap.size W w' := by
  have HO : Hid (∀ w, Calls Try.prog 152 #[.int .i64 5] w fun e w' => ∃ a b c d : Nat, e = .returned (.tuple #[.agg #[.bool true, .bool true, .func (.func 245) #[] #[.pointer (some ⟨c, 0, none⟩), .pointer (some ⟨d, 0, none⟩)], .func (.func 230) #[] #[]], .bool true]) ∧ Below w.heap.size w w' ∧ Hid (KindsAt w' a b c d)) := hid (fun w => of5 w)
  have HZ := hid (Blk.new W #[.int .i64 5, .string n, .string v] 146)
  have HB0 : Hid (Below W.heap.size W (W.alloc (.cells #[.int .i64 5, .string n, .string v] 146))) := by show Below _ _ _; go_grown
  obtain ⟨q, hq⟩ : ∃ q, Hd.nameOk n = q := ⟨_, rfl⟩
  obtain ⟨u, hu⟩ : ∃ u, Hd.valueOk v = u := ⟨_, rfl⟩
  have HN := hid (fun w => C04.name_any n w hn)
  have HC := hid (fun a b w ha hb => whenValue_any v 15 u a b w hv ha hb hu)
  rw [hq] at HN
  rw [hq, hu] at hr
  clear hq hu
  cases q
  · rw [if_neg (by simp)] at hr
    subst hr
    go_enter Try.func98, Try.ntmps98
    go_wp2_with fail
    refine (HO.out _).mono ?_
    rintro e w1 ⟨a, b, c, d, rfl, hb1, hka⟩
    have hk := HZ.out.later hb1
    have d0 : w1.cell? ⟨W.heap.size, 0, none⟩ = some (.int .i64 5) := hk.cell 0
    have d1 : w1.cell? ⟨W.heap.size, 1, none⟩ = some (.string n) := hk.cell 1
    have d2 : w1.cell? ⟨W.heap.size, 2, none⟩ = some (.string v) := hk.cell 2
    have hlt := hk.lt
    have HB1 := hid (HB0.out.trans (hb1.mono (by simp)))
    have HN1 : Hid (Below W.heap.size W (w1.alloc (.cells #[.bool true, .bool true, .func (.func 245) #[] #[.pointer (some ⟨c, 0, none⟩), .pointer (some ⟨d, 0, none⟩)], .func (.func 230) #[] #[]] 204))) := hid (HB1.out.trans (by have := HB1.out.size; go_grown; all_goals omega))
    clear hb1 hk hka
    go_wp2_with fail
    refine (HN.out _).mono ?_
    rintro e w' ⟨rfl, rfl⟩
    go_wp2_with fail
    go_ret
    exact ⟨rfl, HN1.out⟩
  · rw [if_pos rfl] at hr
    rw [hr] at HC
    clear hr
    go_enter Try.func98, Try.ntmps98
    go_wp2_with fail
    refine (HO.out _).mono ?_
    rintro e w1 ⟨a, b, c, d, rfl, hb1, hka⟩
    have hk := HZ.out.later hb1
    have d0 : w1.cell? ⟨W.heap.size, 0, none⟩ = some (.int .i64 5) := hk.cell 0
    have d1 : w1.cell? ⟨W.heap.size, 1, none⟩ = some (.string n) := hk.cell 1
    have d2 : w1.cell? ⟨W.heap.size, 2, none⟩ = some (.string v) := hk.cell 2
    have hlt := hk.lt
    have HB1 := hid (HB0.out.trans (hb1.mono (by simp)))
    have HN1 : Hid (Below W.heap.size W (w1.alloc (.cells #[.bool true, .bool true, .func (.func 245) #[] #[.pointer (some ⟨c, 0, none⟩), .pointer (some ⟨d, 0, none⟩)], .func (.func 230) #[] #[]] 204))) := hid (HB1.out.trans (by have := HB1.out.size; go_grown; all_goals omega))
    clear hb1 hk
    go_wp2_with fail
    refine (HN.out _).mono ?_
    rintro e w' ⟨rfl, rfl⟩
    go_wp2_with fail
    refine (HC.out _ _ _ (hka.out.c.alloc _) (hka.out.d.alloc _)).mono ?_
    rintro e w2 ⟨rfl, hb2⟩
    have HB2 := hid (HN1.out.trans (hb2.mono HN1.out.size))
    clear hb2
    go_wp2_with fail
    go_ret
    exact ⟨rfl, HB2.out⟩
set_option maxRecDepth 100000 in
set_option maxHeartbeats 1000000 in
theorem pcheck6 (n v : ByteArray) (r : Int) (W : World) (hn : n.size ≤ 1000000000000000) (hr : (if v.size ≠ 0 then 2 else if Hd.nameOk n = true then 0 else 7) = r) :
    Calls Try.prog 98 #[.agg #[.int .i64 6, .string n, .string v]] W fun e w' => e = .returned (.int .i64 r) ∧ Below W.heap.size W w' := by
  have HO : Hid (∀ w, Calls Try.prog 152 #[.int .i64 6] w fun e w' => ∃ a b c d : Nat, e = .returned (.tuple #[.agg #[.bool true, .bool false, .func (.func 232) #[] #[], .func (.func 233) #[] #[]], .bool true]) ∧ Below w.heap.size w w' ∧ Hid (KindsAt w' a b c d)) := hid (fun w => of6 w)
  have HZ := hid (Blk.new W #[.int .i64 6, .string n, .string v] 146)
  have HB0 : Hid (Below W.heap.size W (W.alloc (.cells #[.int .i64 6, .string n, .string v] 146))) := by show Below _ _ _; go_grown
  by_cases h0 : v.size ≠ 0
  · rw [if_pos h0] at hr
    have hf := full_of v h0
    have t1 := hf.t1
    have t2 := hf.t2
    have t3 := hf.t3
    subst hr
    clear hf h0
    go_enter Try.func98, Try.ntmps98
    go_wp2_with fail
    refine (HO.out _).mono ?_
    rintro e w1 ⟨a, b, c, d, rfl, hb1, hka⟩
    have hk := HZ.out.later hb1
    have d0 : w1.cell? ⟨W.heap.size, 0, none⟩ = some (.int .i64 6) := hk.cell 0
    have d1 : w1.cell? ⟨W.heap.size, 1, none⟩ = some (.string n) := hk.cell 1
    have d2 : w1.cell? ⟨W.heap.size, 2, none⟩ = some (.string v) := hk.cell 2
    have hlt := hk.lt
    have HB1 := hid (HB0.out.trans (hb1.mono (by simp)))
    have HN1 : Hid (Below W.heap.size W (w1.alloc (.cells #[.bool true, .bool false, .func (.func 232) #[] #[], .func (.func 233) #[] #[]] 204))) := hid (HB1.out.trans (by have := HB1.out.size; go_grown; all_goals omega))
    clear hb1 hk hka
    go_wp2_with fail
    go_ret
    exact ⟨rfl, HN1.out⟩
  · rw [if_neg h0] at hr
    obtain rfl := none_of v (by omega)
    obtain ⟨q, hq⟩ : ∃ q, Hd.nameOk n = q := ⟨_, rfl⟩
    have HN := hid (fun w => C04.name_any n w hn)
    have HC := hid (fun w => khas_any ByteArray.empty w)
    rw [hq] at hr HN
    clear hq h0
    cases q
    · rw [if_neg (by simp)] at hr
      subst hr
      go_enter Try.func98, Try.ntmps98
      go_wp2_with fail
      refine (HO.out _).mono ?_
      rintro e w1 ⟨a, b, c, d, rfl, hb1, hka⟩
      have hk := HZ.out.later hb1
      have d0 : w1.cell? ⟨W.heap.size, 0, none⟩ = some (.int .i64 6) := hk.cell 0
      have d1 : w1.cell? ⟨W.heap.size, 1, none⟩ = some (.string n) := hk.cell 1
      have d2 : w1.cell? ⟨W.heap.size, 2, none⟩ = some (.string ByteArray.empty) := hk.cell 2
      have hlt := hk.lt
      have HB1 := hid (HB0.out.trans (hb1.mono (by simp)))
      have HN1 : Hid (Below W.heap.size W (w1.alloc (.cells #[.bool true, .bool false, .func (.func 232) #[] #[], .func (.func 233) #[] #[]] 204))) := hid (HB1.out.trans (by have := HB1.out.size; go_grown; all_goals omega))
      clear hb1 hk hka
      go_wp2_with fail
      refine (HN.out _).mono ?_
      rintro e w' ⟨rfl, rfl⟩
      go_wp2_with fail
      go_ret
      exact ⟨rfl, HN1.out⟩
    · rw [if_pos rfl] at hr
      subst hr
      go_enter Try.func98, Try.ntmps98
      go_wp2_with fail
      refine (HO.out _).mono ?_
      rintro e w1 ⟨a, b, c, d, rfl, hb1, hka⟩
      have hk := HZ.out.later hb1
      have d0 : w1.cell? ⟨W.heap.size, 0, none⟩ = some (.int .i64 6) := hk.cell 0
      have d1 : w1.cell? ⟨W.heap.size, 1, none⟩ = some (.string n) := hk.cell 1
      have d2 : w1.cell? ⟨W.heap.size, 2, none⟩ = some (.string ByteArray.empty) := hk.cell 2
      have hlt := hk.lt
      have HB1 := hid (HB0.out.trans (hb1.mono (by simp)))
      have HN1 : Hid (Below W.heap.size W (w1.alloc (.cells #[.bool true, .bool false, .func (.func 232) #[] #[], .func (.func 233) #[] #[]] 204))) := hid (HB1.out.trans (by have := HB1.out.size; go_grown; all_goals omega))
      clear hb1 hk hka
      go_wp2_with fail
      refine (HN.out _).mono ?_
      rintro e w' ⟨rfl, rfl⟩
      go_wp2_with fail
      refine (HC.out _).mono ?_
      rintro e w' ⟨rfl, rfl⟩
      go_wp2_with fail
      go_ret
      exact ⟨rfl, HN1.out⟩
end C11
end Go.Proofs.Ytmmmaldpalhjeaa
namespace Go.Proofs.Ytmmmaldpalhjeaa
open Go.RowKit Go.Peri
namespace C11
set_option maxRecDepth 100000 in
theorem pcheck0 (k : Int) (n v : ByteArray) (W : World) (h : k < 1 ∨ 6 < k) :
    Calls Try.prog 98 #[.agg #[.int .i64 k, .string n, .string v]] W fun e w' => e = .returned (.int .i64 2) ∧ Below W.heap.size W w' := by
  have HO : Hid (∀ w, Calls Try.prog 152 #[.int .i64 k] w fun e w' => e = .returned (.tuple #[.agg #[.bool false, .bool false, .nilFunc, .nilFunc], .bool false]) ∧ Below w.heap.size w w') := hid (fun w => h.elim (fun h => of_low k w h) (fun h => of_high k w h))
  have HB0 : Hid (Below W.heap.size W (W.alloc (.cells #[.int .i64 k, .string n, .string v] 146))) := by show Below _ _ _; go_grown
  clear h
  go_enter Try.func98, Try.ntmps98
  go_wp2_with fail
  refine (HO.out _).mono ?_
  rintro e w1 ⟨rfl, hb1⟩
  have HB1 := hid (HB0.out.trans (hb1.mono (by simp)))
  have HN1 : Hid (Below W.heap.size W (w1.alloc (.cells #[.bool false, .bool false, .nilFunc, .nilFunc] 204))) := hid (HB1.out.trans (by have := HB1.out.size; go_grown; all_goals omega))
  clear hb1
  go_wp2_with fail
  go_ret
  exact ⟨rfl, HN1.out⟩
set_option maxRecDepth 100000 in
theorem mMethod (k : Int) (n v m h p b : ByteArray) (hd : Value) (r : Bool) (W : World) (a : Option Addr) (l c : Nat) (ha : hd = .slice a l c) (hr : decide (m = v) = r) :
    Calls Try.prog 223 #[.agg #[.int .i64 k, .string n, .string v], .agg #[.string m, .string h, .string p, hd, .string b]] W fun e w' => e = .returned (.bool r) ∧ Below W.heap.size W w' := by
  subst ha
  have k1 := (strEq_of hr).eq
  have k2 := (strEq_of hr).ne
  clear hr
  go_enter Try.func223, Try.ntmps223
  go_wp2_with fail
  go_ret
  exact ⟨rfl, by go_grown⟩
end C11
end Go.Proofs.Ytmmmaldpalhjeaa
namespace Go.Proofs.Ytmmmaldpalhjeaa
open Go.RowKit Go.Peri
namespace C11
set_option maxRecDepth 100000 in
set_option maxHeartbeats 1000000 in
theorem rcheck1 (n v : ByteArray) (r : Int) (W : World) (hv : v.size ≤ 1000000000000000) (hr : (if n.size ≠ 0 then 2 else if methodOk v = true then 0 else 3) = r) :
    Calls Try.prog 103 #[.agg #[.int .i64 1, .string n, .string v]] W fun e w' => e = .returned (.int .i64 r) ∧ Below W.heap.size W w' := by
  by_cases h0 : n.size ≠ 0
  · rw [if_pos h0] at hr
    have hf := full_of n h0
    have t1 := hf.t1
    have t2 := hf.t2
    have t3 := hf.t3
    subst hr
    clear hf h0
    go_enter Try.func103, Try.ntmps103
    go_wp2_with fail
    go_ret
    exact ⟨rfl, by go_grown⟩
  · rw [if_neg h0] at hr
    obtain rfl := none_of n (by omega)
    obtain ⟨q, hq⟩ : ∃ q, methodOk v = q := ⟨_, rfl⟩
    have HC := hid (fun w => rmethod_any v q w hv hq)
    rw [hq] at hr
    clear hq h0
    cases q
    · rw [if_neg (by simp)] at hr
      subst hr
      go_enter Try.func103, Try.ntmps103
      go_wp2_with fail
      refine (HC.out _).mono ?_
      rintro e w' ⟨rfl, rfl⟩
      go_wp2_with fail
      go_ret
      exact ⟨rfl, by go_grown⟩
    · rw [if_pos rfl] at hr
      subst hr
      go_enter Try.func103, Try.ntmps103
      go_wp2_with fail
      refine (HC.out _).mono ?_
      rintro e w' ⟨rfl, rfl⟩
      go_wp2_with fail
      go_ret
      exact ⟨rfl, by go_grown⟩
set_option maxRecDepth 100000 in
set_option maxHeartbeats 1000000 in
theorem rcheck2 (n v : ByteArray) (r : Int) (W : World) (hv : v.size ≤ 1000000000000000) (hr : (if n.size ≠ 0 then 2 else if Hd.nameOk v = true then 0 else 7) = r) :
    Calls Try.prog 103 #[.agg #[.int .i64 2, .string n, .string v]] W fun e w' => e = .returned (.int .i64 r) ∧ Below W.heap.size W w' := by
  by_cases h0 : n.size ≠ 0
  · rw [if_pos h0] at hr
    have hf := full_of n h0
    have t1 := hf.t1
    have t2 := hf.t2
    have t3 := hf.t3
    subst hr
    clear hf h0
    go_enter Try.func103, Try.ntmps103
    go_wp2_with fail
    go_ret
    exact ⟨rfl, by go_grown⟩
  · rw [if_neg h0] at hr
    obtain rfl := none_of n (by omega)
    obtain ⟨q, hq⟩ : ∃ q, Hd.nameOk v = q := ⟨_, rfl⟩
    have HC := hid (fun w => C04.rname_any v w hv)
    rw [hq] at hr HC
    clear hq h0
    cases q
    · rw [if_neg (by simp)] at hr
      subst hr
      go_enter Try.func103, Try.ntmps103
      go_wp2_with fail
      refine (HC.out _).mono ?_
      rintro e w' ⟨rfl, rfl⟩
      go_wp2_with fail
      go_ret
      exact ⟨rfl, by go_grown⟩
    · rw [if_pos rfl] at hr
      subst hr
      go_enter Try.func103, Try.ntmps103
      go_wp2_with fail
      refine (HC.out _).mono ?_
      rintro e w' ⟨rfl, rfl⟩
      go_wp2_with fail
      go_ret
      exact ⟨rfl, by go_grown⟩
set_option maxRecDepth 100000 in
set_option maxHeartbeats 1000000 in
theorem rcheck3 (n v : ByteArray) (r : Int) (W : World) (hv : v.size ≤ 1000000000000000) (hr : (if n.size ≠ 0 then 2 else if pathOk v = true then 0 else 12) = r) :
    Calls Try.prog 103 #[.agg #[.int .i64 3, .string n, .string v]] W fun e w' => e = .returned (.int .i64 r) ∧ Below W.heap.size W w' := by
  by_cases h0 : n.size ≠ 0
  · rw [if_pos h0] at hr
    have hf := full_of n h0
    have t1 := hf.t1
    have t2 := hf.t2
    have t3 := hf.t3
    subst hr
    clear hf h0
    go_enter Try.func103, Try.ntmps103
    go_wp2_with fail
    go_ret
    exact ⟨rfl, by go_grown⟩
  · rw [if_neg h0] at hr
    obtain rfl := none_of n (by omega)
    obtain ⟨q, hq⟩ : ∃ q, pathOk v = q := ⟨_, rfl⟩
    have HC := hid (fun w => rpath_any v q w hv hq)
    rw [hq] at hr
    clear hq h0
    cases q
    · rw [if_neg (by simp)] at hr
      subst hr
      go_enter Try.func103, Try.ntmps103
      go_wp2_with fail
      refine (HC.out _).mono ?_
      rintro e w' ⟨rfl, rfl⟩
      go_wp2_with fail
      go_ret
      exact ⟨rfl, by go_grown⟩
    · rw [if_pos rfl] at hr
      subst hr
      go_enter Try.func103, Try.ntmps103
      go_wp2_with fail
      refine (HC.out _).mono ?_
      rintro e w' ⟨rfl, rfl⟩
      go_wp2_with fail
      go_ret
      exact ⟨rfl, by go_grown⟩
set_option maxRecDepth 100000 in
set_option maxHeartbeats 1000000 in
theorem rcheck4 (n v : ByteArray) (r : Int) (W : World) (hv : v.size ≤ 1000000000000000) (hr : (if n.size ≠ 0 then 2 else if pathOk v = true then 0 else 12) = r) :
    Calls Try.prog 103 #[.agg #[.int .i64 4, .string n, .string v]] W fun e w' => e = .returned (.int .i64 r) ∧ Below W.heap.size W w' := by
  by_cases h0 : n.size ≠ 0
  · rw [if_pos h0] at hr
    have hf := full_of n h0
    have t1 := hf.t1
    have t2 := hf.t2
    have t3 := hf.t3
    subst hr
    clear hf h0
    go_enter Try.func103, Try.ntmps103
    go_wp2_with fail
    go_ret
    exact ⟨rfl, by go_grown⟩
  · rw [if_neg h0] at hr
    obtain rfl := none_of n (by omega)
    obtain ⟨q, hq⟩ : ∃ q, pathOk v = q := ⟨_, rfl⟩
    have HC := hid (fun w => rpath_any v q w hv hq)
    rw [hq] at hr
    clear hq h0
    cases q
    · rw [if_neg (by simp)] at hr
      subst hr
      go_enter Try.func103, Try.ntmps103
      go_wp2_with fail
      refine (HC.out _).mono ?_
      rintro e w' ⟨rfl, rfl⟩
      go_wp2_with fail
      go_ret
      exact ⟨rfl, by go_grown⟩
    · rw [if_pos rfl] at hr
      subst hr
      go_enter Try.func103, Try.ntmps103
      go_wp2_with fail
      refine (HC.out _).mono ?_
      rintro e w' ⟨rfl, rfl⟩
      go_wp2_with fail
      go_ret
      exact ⟨rfl, by go_grown⟩
set_option maxRecDepth 100000 in
set_option maxHeartbeats 1000000 in
theorem rcheck5 (n v : ByteArray) (r : Int) (W : World) (hn : n.size ≤ 1000000000000000) (hv : v.size ≤ 1000000000000000) (hr : (if Hd.nameOk n = true then (if Hd.valueOk v = true then 0 else 15) else 7) = r) :
    Calls Try.prog 103 #[.agg #[.int .i64 5, .string n, .string v]] W fun e w' => e = .returned (.int .i64 r) ∧ Below W.heap.size W w' := by
  obtain ⟨q, hq⟩ : ∃ q, Hd.nameOk n = q := ⟨_, rfl⟩
  obtain ⟨u, hu⟩ : ∃ u, Hd.valueOk v = u := ⟨_, rfl⟩
  have HN := hid (fun w => C04.rname_any n w hn)
  have HC := hid (fun w => C04.rvalue_any v w hv)
  rw [hq] at HN
  rw [hu] at HC
  rw [hq, hu] at hr
  clear hq hu
  cases q
  · rw [if_neg (by simp)] at hr
    subst hr
    go_enter Try.func103, Try.ntmps103
    go_wp2_with fail
    refine (HN.out _).mono ?_
    rintro e w' ⟨rfl, rfl⟩
    go_wp2_with fail
    go_ret
    exact ⟨rfl, by go_grown⟩
  rw [if_pos rfl] at hr
  cases u
  · rw [if_neg (by simp)] at hr
    subst hr
    go_enter Try.func103, Try.ntmps103
    go_wp2_with fail
    refine (HN.out _).mono ?_
    rintro e w' ⟨rfl, rfl⟩
    go_wp2_with fail
    refine (HC.out _).mono ?_
    rintro e w' ⟨rfl, rfl⟩
    go_wp2_with fail
    go_ret
    exact ⟨rfl, by go_grown⟩
  · rw [if_pos rfl] at hr
    subst hr
    go_enter Try.func103, Try.ntmps103
    go_wp2_with fail
    refine (HN.out _).mono ?_
    rintro e w' ⟨rfl, rfl⟩
    go_wp2_with fail
    refine (HC.out _).mono ?_
    rintro e w' ⟨rfl, rfl⟩
    go_wp2_with fail
    go_ret
    exact ⟨rfl, by go_grown⟩
set_option maxRecDepth 100000 in
set_option maxHeartbeats 1000000 in
theorem rcheck6 (n v : ByteArray) (r : Int) (W : World) (hn : n.size ≤ 1000000000000000) (hr : (if v.size ≠ 0 then 2 else if Hd.nameOk n = true then 0 else 7) = r) :
    Calls Try.prog 103 #[.agg #[.int .i64 6, .string n, .string v]] W fun e w' => e = .returned (.int .i64 r) ∧ Below W.heap.size W w' := by
  by_cases h0 : v.size ≠ 0
  · rw [if_pos h0] at hr
    have hf := full_of v h0
    have t1 := hf.t1
    have t2 := hf.t2
    have t3 := hf.t3
    subst hr
    clear hf h0
    go_enter Try.func103, Try.ntmps103
    go_wp2_with fail
    go_ret
    exact ⟨rfl, by go_grown⟩
  · rw [if_neg h0] at hr
    obtain rfl := none_of v (by omega)
    obtain ⟨q, hq⟩ : ∃ q, Hd.nameOk n = q := ⟨_, rfl⟩
    have HC := hid (fun w => C04.rname_any n w hn)
    rw [hq] at hr HC
    clear hq h0
    cases q
    · rw [if_neg (by simp)] at hr
      subst hr
      go_enter Try.func103, Try.ntmps103
      go_wp2_with fail
      refine (HC.out _).mono ?_
      rintro e w' ⟨rfl, rfl⟩
      go_wp2_with fail
      go_ret
      exact ⟨rfl, by go_grown⟩
    · rw [if_pos rfl] at hr
      subst hr
      go_enter Try.func103, Try.ntmps103
      go_wp2_with fail
      refine (HC.out _).mono ?_
      rintro e w' ⟨rfl, rfl⟩
      go_wp2_with fail
      go_ret
      exact ⟨rfl, by go_grown⟩
end C11
end Go.Proofs.Ytmmmaldpalhjeaa
namespace Go.Proofs.Ytmmmaldpalhjeaa
open Go.RowKit Go.Peri
namespace C11
set_option maxRecDepth 100000 in
theorem rcheck0 (k : Int) (n v : ByteArray) (W : World) (h : k < 1 ∨ 6 < k) :
    Calls Try.prog 103 #[.agg #[.int .i64 k, .string n, .string v]] W fun e w' => e = .returned (.int .i64 2) ∧ Below W.heap.size W w' := by
  by_cases h1 : k < 1
  · clear h
    go_enter Try.func103, Try.ntmps103
    go_wp2_with fail
    go_ret
    exact ⟨rfl, by go_grown⟩
  · have h2 : 6 < k := by omega
    clear h
    go_enter Try.func103, Try.ntmps103
    go_wp2_with fail
    go_ret
    exact ⟨rfl, by go_grown⟩
end C11
end Go.Proofs.Ytmmmaldpalhjeaa
namespace Go.Proofs.Ytmmmaldpalhjeaa
open Go.RowKit Go.Peri
namespace C11
set_option maxRecDepth 100000 in
theorem mHost (k : Int) (n v m h p b : ByteArray) (hd : Value) (r : Bool) (W : World) (a : Option Addr) (l c : Nat) (ha : hd = .slice a l c) (hr : decide (h = v) = r) :
    Calls Try.prog 225 #[.agg #[.int .i64 k, .string n, .string v], .agg #[.string m, .string h, .string p, hd, .string b]] W fun e w' => e = .returned (.bool r) ∧ Below W.heap.size W w' := by
  subst ha
  have k1 := (strEq_of hr).eq
  have k2 := (strEq_of hr).ne
  clear hr
  go_enter Try.func225, Try.ntmps225
  go_wp2_with fail
  go_ret
  exact ⟨rfl, by go_grown⟩
set_option maxRecDepth 100000 in
theorem mExact (k : Int) (n v m h p b : ByteArray) (hd : Value) (r : Bool) (W : World) (a : Option Addr) (l c : Nat) (ha : hd = .slice a l c) (hr : decide (p = v) = r) :
    Calls Try.prog 226 #[.agg #[.int .i64 k, .string n, .string v], .agg #[.string m, .string h, .string p, hd, .string b]] W fun e w' => e = .returned (.bool r) ∧ Below W.heap.size W w' := by
  subst ha
  have k1 := (strEq_of hr).eq
  have k2 := (strEq_of hr).ne
  clear hr
  go_enter Try.func226, Try.ntmps226
  go_wp2_with fail
  go_ret
  exact ⟨rfl, by go_grown⟩
set_option maxRecDepth 100000 in
theorem mPrefix (k : Int) (n v m h p b : ByteArray) (hd : Value) (r : Bool) (W : World) (a : Option Addr) (l c : Nat) (ha : hd = .slice a l c) (hr : prefR p v = r) :
    Calls Try.prog 227 #[.agg #[.int .i64 k, .string n, .string v], .agg #[.string m, .string h, .string p, hd, .string b]] W fun e w' => e = .returned (.bool r) ∧ Below W.heap.size W w' := by
  subst ha
  have HP := hid (fun w => hasPrefix_any p v r w hr)
  clear hr
  go_enter Try.func227, Try.ntmps227
  go_wp2_with fail
  refine (HP.out _).mono ?_
  rintro e w' ⟨rfl, rfl⟩
  go_wp2_with fail
  go_ret
  exact ⟨rfl, by go_grown⟩
end C11
end Go.Proofs.Ytmmmaldpalhjeaa
namespace Go.Proofs.Ytmmmaldpalhjeaa
open Go.RowKit Go.Peri
namespace C11
set_option maxRecDepth 100000 in
theorem mHas {pp : Nat → Prop} (k : Int) (n v m h p b : ByteArray) (hd : Value) (l : List Hd) (r : Bool) (W : World) (hl : RowsOf pp Hd.enc 2 W hd l) (hp : ∀ b, pp b → b < W.heap.size) (hn : l.length ≤ 1000000) (hr : decide (0 < (Hd.allR l n).length) = r) :
    Calls Try.prog 233 #[.agg #[.int .i64 k, .string n, .string v], .agg #[.string m, .string h, .string p, hd, .string b]] W fun e w' => e = .returned (.bool r) ∧ Below W.heap.size W w' := by
  have HA := hid (fun w' (hw : Below W.heap.size W w') => C04.all_any hd l n w' (hl.below hw hp) (fun b hb => Nat.lt_of_lt_of_le (hp b hb) hw.size) (by omega))
  obtain ⟨a, cap, rfl⟩ := hl.form
  have HB0 : Hid (Below W.heap.size W ((W.alloc (.cells #[.int .i64 k, .string n, .string v] 146)).alloc (.cells #[.string m, .string h, .string p, .slice a l.length cap, .string b] 67))) := by show Below _ _ _; go_grown
  have HR := hid hr
  clear hl hp hr
  go_enter Try.func233, Try.ntmps233
  go_wp2_with fail
  refine (HA.out _ HB0.out).mono ?_
  rintro e w1 ⟨a1, c1, rfl, hb1, hrow⟩
  have HB1 := hid (HB0.out.trans (hb1.mono HB0.out.size))
  clear hb1 hrow
  go_wp2_with fail
  go_ret
  exact ⟨by rw [← HR.out]; rfl, HB1.out⟩
end C11
end Go.Proofs.Ytmmmaldpalhjeaa
namespace Go.Proofs.Ytmmmaldpalhjeaa
open Go.RowKit Go.Peri
namespace C11
set_option maxRecDepth 100000 in
set_option maxHeartbeats 1000000 in
theorem mHead {pp : Nat → Prop} (k : Int) (n v m h p b : ByteArray) (hd : Value) (l : List Hd) (r : Bool) (W : World) (hl : RowsOf pp Hd.enc 2 W hd l) (hp : ∀ b, pp b → b < W.heap.size) (hn : l.length ≤ 1000000) (hr : (Hd.allR l n).any (fun x => decide (x = v)) = r) :
    Calls Try.prog 230 #[.agg #[.int .i64 k, .string n, .string v], .agg #[.string m, .string h, .string p, hd, .string b]] W fun e w' => e = .returned (.bool r) ∧ Below W.heap.size W w' := by
  have HA := hid (fun w' (hw : Below W.heap.size W w') => C04.all_any hd l n w' (hl.below hw hp) (fun b hb => Nat.lt_of_lt_of_le (hp b hb) hw.size) (by omega))
  have hlen : (Hd.allR l n).length ≤ 1000000000000 := by
    unfold Hd.allR; rw [List.length_map]; exact Nat.le_trans (List.length_filter_le _ _) (by omega)
  obtain ⟨a, cap, rfl⟩ := hl.form
  have HZ := hid ((Blk.new W #[.int .i64 k, .string n, .string v] 146).alloc (.cells #[.string m, .string h, .string p, .slice a l.length cap, .string b] 67))
  have HY := hid (Blk.new' (W.alloc (.cells #[.int .i64 k, .string n, .string v] 146)) #[.string m, .string h, .string p, .slice a l.length cap, .string b] 67 (n := W.heap.size + 1) (by simp))
  have HB0 : Hid (Below W.heap.size W ((W.alloc (.cells #[.int .i64 k, .string n, .string v] 146)).alloc (.cells #[.string m, .string h, .string p, .slice a l.length cap, .string b] 67))) := by show Below _ _ _; go_grown
  have KEEP : Hid (∀ w', Below ((W.alloc (.cells #[.int .i64 k, .string n, .string v] 146)).alloc (.cells #[.string m, .string h, .string p, .slice a l.length cap, .string b] 67)).heap.size ((W.alloc (.cells #[.int .i64 k, .string n, .string v] 146)).alloc (.cells #[.string m, .string h, .string p, .slice a l.length cap, .string b] 67)) w' →
      w'.cell? ⟨W.heap.size, 1, none⟩ = some (.string n) ∧ w'.cell? ⟨W.heap.size, 2, none⟩ = some (.string v) ∧ w'.cell? ⟨W.heap.size + 1, 3, none⟩ = some (.slice a l.length cap)) :=
    fun w' hw => ⟨(HZ.out.later hw).cell 1, (HZ.out.later hw).cell 2, (HY.out.later hw).cell 3⟩
  have HR := hid hr
  have HLEN := hid hlen
  clear hl hp hr HZ HY hlen
  go_enter Try.func230, Try.ntmps230
  go_wp2_with fail
  go_region_held3 (fun w' => w'.cell? ⟨W.heap.size, 1, none⟩ = some (.string n) ∧ w'.cell? ⟨W.heap.size, 2, none⟩ = some (.string v) ∧ w'.cell? ⟨W.heap.size + 1, 3, none⟩ = some (.slice a l.length cap))
    (first
      | exact KEEP.out _ hb2
      | exact KEEP.out _ (Below.refl _ _).drew
      | go_keep)
    ((first
      | (go_at_call 231; (with_reducible refine (HA.out _ HB0.out.drew).mono ?_); rintro e w1 ⟨a1, c1, rfl, hb1, hrow⟩; have hb2 := below_drew hb1)
      | (go_at_call 100; refine (C04.contains_any _ _ v r w1 (RowsOf.of_owns sEnc_length hrow.out) HLEN.out HR.out).mono ?_; rintro e w' ⟨rfl, rfl⟩)))
  all_goals
    have HB1 := hid (HB0.out.trans (hb2.mono HB0.out.size))
    clear hb1 hrow hb2
    go_wp2_with fail
    go_ret
    exact ⟨rfl, HB1.out⟩
/-- Whether a request matches. -/
def matchR (k : Int) (n v m h p : ByteArray) (l : List Hd) : Bool :=
  if k = 1 then decide (m = v) else if k = 2 then decide (h = v) else if k = 3 then decide (p = v) else if k = 4 then prefR p v
  else if k = 5 then (Hd.allR l n).any (fun x => decide (x = v)) else if k = 6 then decide (0 < (Hd.allR l n).length) else false
end C11
end Go.Proofs.Ytmmmaldpalhjeaa
