/- Walks of layer 16 (decide): DecideOnce; no condition. -/
import Derived.Test.YthmopkaecbebpaaJ16
import Derived.Deep.RegionHeld3
import Derived.Deep.CutRange
import Derived.Deep.DeepCutAuto
namespace Go.Proofs.Ythmopkaecbebpaa
open Go.RowKit Go.Peri
namespace C16
attribute [-go_sem] World.setCell_alloc_past
theorem blk_eq {w : World} {g : Nat} {cs cs' : Array Value} {t : TypeId} (h : Blk w g cs t) (e : cs = cs') : Blk w g cs' t := e ▸ h
theorem put6 {w : World} {g : Nat} {t : TypeId} {v0 v1 v2 v3 v4 v5 : Value} (h : Blk w g #[.int .i64 0, .int .i64 0, .string ⟨#[]⟩, .int .i64 0, .int .i64 0, .string ⟨#[]⟩] t) :
    Blk ((((((w.setCell ⟨g, 0, none⟩ v0).setCell ⟨g, 1, none⟩ v1).setCell ⟨g, 2, none⟩ v2).setCell ⟨g, 3, none⟩ v3).setCell ⟨g, 4, none⟩ v4).setCell ⟨g, 5, none⟩ v5) g #[v0, v1, v2, v3, v4, v5] t :=
  (((((h.set 0 v0).set 1 v1).set 2 v2).set 3 v3).set 4 v4).set 5 v5
theorem put6o {w : World} {g k : Nat} {t : TypeId} {cs : Array Value} {v0 v1 v2 v3 v4 v5 : Value} (h : Blk w g cs t) (hk : g ≠ k) :
    Blk ((((((w.setCell ⟨k, 0, none⟩ v0).setCell ⟨k, 1, none⟩ v1).setCell ⟨k, 2, none⟩ v2).setCell ⟨k, 3, none⟩ v3).setCell ⟨k, 4, none⟩ v4).setCell ⟨k, 5, none⟩ v5) g cs t :=
  (((((h.other hk v0).other hk v1).other hk v2).other hk v3).other hk v4).other hk v5
theorem only6 {S : List Nat} {a w : World} {k : Nat} {v0 v1 v2 v3 v4 v5 : Value} (h : Only S a w) (hk : a.heap.size ≤ k) :
    Only S a ((((((w.setCell ⟨k, 0, none⟩ v0).setCell ⟨k, 1, none⟩ v1).setCell ⟨k, 2, none⟩ v2).setCell ⟨k, 3, none⟩ v3).setCell ⟨k, 4, none⟩ v4).setCell ⟨k, 5, none⟩ v5) :=
  (((((h.setNew hk v0).setNew hk v1).setNew hk v2).setNew hk v3).setNew hk v4).setNew hk v5
/-- Behind both actions: each in a block of its own. -/
def OnceQ (x y : Ac) (w2 : World) (v7 v8 : Value) (wx : World) : Prop :=
  ∃ g7 g8 : Nat, v7 = .pointer (some ⟨g7, 0, none⟩) ∧ v8 = .pointer (some ⟨g8, 0, none⟩) ∧ g7 ≠ g8 ∧ Below w2.heap.size w2 wx ∧ w2.heap.size ≤ g7 ∧ w2.heap.size ≤ g8 ∧ Blk wx g7 #[.int .i64 x.kind, .int .i64 x.rule, .string x.target, .int .i64 x.status, .int .i64 x.delay, .string x.mirror] 118 ∧ Blk wx g8 #[.int .i64 y.kind, .int .i64 y.rule, .string y.target, .int .i64 y.status, .int .i64 y.delay, .string y.mirror] 118
set_option maxRecDepth 100000 in
set_option maxHeartbeats 2000000 in
theorem once_few (K : Known) (n : Int) (l : List Rl) (a : Option Addr) (cap : Nat) (f : ByteArray) (m h p b : ByteArray) (hs : List Hd) (a0 : Option Addr) (cap0 : Nat) (x0 x1 x2 : Int) (W : World) (ht : TabV W W.heap.size l a cap f) (hq : ReqV W W.heap.size m h p b hs a0 cap0) (hh : fewT l f = false ∨ C11.short m h p b hs = false) :
    Calls Try.prog 16 #[.agg #[.int .i64 n, .slice a l.length cap, .string f], .agg #[.string m, .string h, .string p, .slice a0 hs.length cap0, .string b], .agg #[.int .i64 x0, .int .i64 x1, .int .i64 x2]] W fun e w' => e = .returned (.bool true) ∧ Below W.heap.size W w' := by
  obtain ⟨rt, hrt⟩ : ∃ r, fewT l f = r := ⟨_, rfl⟩
  obtain ⟨rs, hrs⟩ : ∃ r, C11.short m h p b hs = r := ⟨_, rfl⟩
  rw [hrt, hrs] at hh
  have HK := hid K
  have HB0 : Hid (Below W.heap.size W (((W.alloc (.cells #[.int .i64 n, .slice a l.length cap, .string f] 110)).alloc (.cells #[.string m, .string h, .string p, .slice a0 hs.length cap0, .string b] 113)).alloc (.cells #[.int .i64 x0, .int .i64 x1, .int .i64 x2] 114))) := by show Below _ _ _; go_grown
  have HZ := hid (((Blk.new W #[.int .i64 n, .slice a l.length cap, .string f] 110).alloc (.cells #[.string m, .string h, .string p, .slice a0 hs.length cap0, .string b] 113)).alloc (.cells #[.int .i64 x0, .int .i64 x1, .int .i64 x2] 114))
  have HY := hid ((Blk.new' (W.alloc (.cells #[.int .i64 n, .slice a l.length cap, .string f] 110)) #[.string m, .string h, .string p, .slice a0 hs.length cap0, .string b] 113 (n := W.heap.size + 1) (by simp)).alloc (.cells #[.int .i64 x0, .int .i64 x1, .int .i64 x2] 114))
  have HX := hid (Blk.new' ((W.alloc (.cells #[.int .i64 n, .slice a l.length cap, .string f] 110)).alloc (.cells #[.string m, .string h, .string p, .slice a0 hs.length cap0, .string b] 113)) #[.int .i64 x0, .int .i64 x1, .int .i64 x2] 114 (n := W.heap.size + 2) (by simp))
  have HF := hid (fun w' (hw : Below W.heap.size W w') => fewT_any n l a cap f rt w' (ht.below hw) hw.size hrt)
  have HSH := hid (fun w' (hw : Below W.heap.size W w') => C11.short_any m h p b hs a0 cap0 rs w' (hq.rows.below hw (fun _ h => h)) (fun b hb => Nat.lt_of_lt_of_le hb hw.size) hq.wf (by have := hq.len; omega) hq.m hq.h hq.p hq.b hrs)
  clear hrt hrs ht hq K
  cases rt
  · clear hh
    go_enter Try.func16, Try.ntmps16
    go_wp2_with fail
    refine (HF.out _ HB0.out).mono ?_
    rintro e w1 ⟨rfl, hb1⟩
    have HB1 := hid (HB0.out.trans (hb1.mono HB0.out.size))
    clear hb1
    go_wp2_with fail
    refine (HK.out _).mono ?_
    rintro e w9 ⟨rfl, hb9⟩
    have HB9 := hid (HB1.out.trans (hb9.mono HB1.out.size))
    clear hb9
    go_wp2_with fail
    go_ret
    exact ⟨rfl, HB9.out⟩
  · have hrs : rs = false := by simpa using hh
    subst hrs
    clear hh
    go_enter Try.func16, Try.ntmps16
    go_wp2_with fail
    refine (HF.out _ HB0.out).mono ?_
    rintro e w1 ⟨rfl, hb1⟩
    have HB1 := hid (HB0.out.trans (hb1.mono HB0.out.size))
    have HQ1 := hid hb1
    have hy := HY.out.later hb1
    have y0 : w1.cell? ⟨W.heap.size + 1, 0, none⟩ = some (.string m) := hy.cell 0
    have y1 : w1.cell? ⟨W.heap.size + 1, 1, none⟩ = some (.string h) := hy.cell 1
    have y2 : w1.cell? ⟨W.heap.size + 1, 2, none⟩ = some (.string p) := hy.cell 2
    have y3 : w1.cell? ⟨W.heap.size + 1, 3, none⟩ = some (.slice a0 hs.length cap0) := hy.cell 3
    have y4 : w1.cell? ⟨W.heap.size + 1, 4, none⟩ = some (.string b) := hy.cell 4
    have hly := hy.lt
    clear hb1 hy
    go_wp2_with fail
    refine (HSH.out _ HB1.out).mono ?_
    rintro e w2 ⟨rfl, hb2⟩
    have HB2 := hid (HB1.out.trans (hb2.mono HB1.out.size))
    have HQ2 := hid (HQ1.out.trans (hb2.mono HQ1.out.size))
    clear hb2 y0 y1 y2 y3 y4 hly
    go_wp2_with fail
    refine (HK.out _).mono ?_
    rintro e w9 ⟨rfl, hb9⟩
    have HB9 := hid (HB2.out.trans (hb9.mono HB2.out.size))
    clear hb9
    go_wp2_with fail
    go_ret
    exact ⟨rfl, HB9.out⟩
end C16
end Go.Proofs.Ythmopkaecbebpaa
