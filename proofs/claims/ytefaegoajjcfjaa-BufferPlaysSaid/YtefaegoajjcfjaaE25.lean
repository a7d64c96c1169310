/- Walks of layer 25 (buffer): a span put where there is room; no condition. -/
import Derived.Test.YtefaegoajjcfjaaD25
import Derived.Test.YtefaegoajjcfjaaD24
import Derived.Deep.RegionLaw
namespace Go.Proofs.Ytefaegoajjcfjaa
open Go.RowKit Go.Peri
namespace C25

set_option maxRecDepth 100000 in
set_option maxHeartbeats 4000000 in
theorem put_more (g : Nat) (h : Option Nat) (room : Nat) (l : List Sp) (lost : Int) (s : Sp) (w : World) (hb : BufIs w g h room l lost) (hf : l.length < room) :
    Calls Try.prog 53 #[.pointer (some ⟨g, 0, none⟩), .agg #[.int .u64 s.hi, .int .u64 s.lo, .int .u64 s.id, .int .u64 s.up, .string s.name, .int .i64 s.status, .int .i64 s.seq, .int .i64 s.kids, .bool s.shadow, .int .i64 s.start, .int .i64 s.stop]] w fun e w' =>
      e = .returned (.bool true) ∧ Only (own g h) w w' ∧ ∃ h', Moved w h h' ∧ BufIs w' g h' room (l ++ [s]) lost := by
  obtain ⟨a, cap, e1, h2, h3, h4, h5, h6, h7⟩ := hb.form
  have hgl := h2.lt
  have hr1 : ¬ (room : Int) ≤ (l.length : Int) := by omega
  have c0 : w.cell? ⟨g, 0, none⟩ = some (.int .i64 room) := h2.cell 0
  have c1 : w.cell? ⟨g, 1, none⟩ = some (.slice a l.length cap) := h2.cell 1
  have f1 := h2.free 1
  have hne : ¬ g = w.heap.size := by omega
  have hne2 : ¬ w.heap.size = g := by omega
  have HG := hid h2
  have HE := hid e1
  have HO : Hid (((w.alloc (.cells #[.int .u64 s.hi, .int .u64 s.lo, .int .u64 s.id, .int .u64 s.up, .string s.name, .int .i64 s.status, .int .i64 s.seq, .int .i64 s.kids, .bool s.shadow, .int .i64 s.start, .int .i64 s.stop] 79)).drew.drew).ownsRow (g + 1) 79 11 (.slice a l.length cap) l.length (l.flatMap Sp.enc)) := h3.alloc _
  have HK : Hid (Blk ((w.alloc (.cells #[.int .u64 s.hi, .int .u64 s.lo, .int .u64 s.id, .int .u64 s.up, .string s.name, .int .i64 s.status, .int .i64 s.seq, .int .i64 s.kids, .bool s.shadow, .int .i64 s.start, .int .i64 s.stop] 79)).drew.drew) w.heap.size #[.int .u64 s.hi, .int .u64 s.lo, .int .u64 s.id, .int .u64 s.up, .string s.name, .int .i64 s.status, .int .i64 s.seq, .int .i64 s.kids, .bool s.shadow, .int .i64 s.start, .int .i64 s.stop] 79) := Blk.new w _ _
  have HGG : Hid (Blk ((w.alloc (.cells #[.int .u64 s.hi, .int .u64 s.lo, .int .u64 s.id, .int .u64 s.up, .string s.name, .int .i64 s.status, .int .i64 s.seq, .int .i64 s.kids, .bool s.shadow, .int .i64 s.start, .int .i64 s.stop] 79)).drew.drew) g #[.int .i64 room, .slice a l.length cap, .int .i64 lost] 123) := h2.alloc _
  have HLT : Hid (∀ k, h = some k → g + 1 ≤ k ∧ k < w.heap.size) := fun k hk => h3.lt k (by rw [e1]; exact hk)
  have l63 : l.length + 1 ≤ 9223372036854775807 := by omega
  have lby : (l.length + 1) * 96 ≤ 140737488355328 := by omega
  have lbase : g + 1 ≤ ((w.alloc (.cells #[.int .u64 s.hi, .int .u64 s.lo, .int .u64 s.id, .int .u64 s.up, .string s.name, .int .i64 s.status, .int .i64 s.seq, .int .i64 s.kids, .bool s.shadow, .int .i64 s.start, .int .i64 s.stop] 79)).drew.drew).heap.size := by simp; omega
  have HN1 : Hid (g ∉ (Value.slice a l.length cap).ownBlock.toList) := by
    intro hm
    rw [HE.out] at hm
    have := HLT.out g (by simpa using hm)
    omega
  have HN2 : Hid (w.heap.size ∉ (Value.slice a l.length cap).ownBlock.toList) := by
    intro hm
    rw [HE.out] at hm
    have := HLT.out w.heap.size (by simpa using hm)
    omega
  clear h2 h3 hb e1
  go_enter Try.func53, Try.ntmps53
  go_wp2_with fail
  go_region_held3 (fun w' => w'.cell? ⟨g, 0, none⟩ = some (.int .i64 room) ∧ w'.cell? ⟨g, 1, none⟩ = some (.slice a l.length cap)) (go_keep) (fail)
  go_wp2_with fail
  obtain ⟨z0, z1, z2, z3, z4, z5, z6, z7, z8, z9, z10, zf⟩ := C24.blk11 HK.out
  go_region_law (refine step_push_at elem71 rfl (.tmp 31) (.tmp 33) rfl (g + 1) (.slice a l.length cap) l.length (l.flatMap Sp.enc) (Sp.enc s) (by simp [Act.eval]) HO.out rfl (by simp [Act.eval]) rfl (by simp [Sp.enc, Value.oneCell']) l63 lby lbase ?_; intro hb1 cap1 w1 hown1 honly1 hat1; have k1 := (HGG.out.only honly1 HN1.out).cell 1; have kf := (HGG.out.only honly1 HN1.out).free 1; simp only [List.getElem?_toArray, List.getElem?_cons_zero, List.getElem?_cons_succ] at k1)
  all_goals
    have HF1 := hid hown1
    have HF2 := hid honly1
    have HF3 := hid hat1
    clear hown1 honly1 hat1
    go_wp2_with fail
    go_ret
    have ho : Only (own g h) w w1 := by
      have h1 : Only (own g h) w ((w.alloc (.cells #[.int .u64 s.hi, .int .u64 s.lo, .int .u64 s.id, .int .u64 s.up, .string s.name, .int .i64 s.status, .int .i64 s.seq, .int .i64 s.kids, .bool s.shadow, .int .i64 s.start, .int .i64 s.stop] 79)).drew.drew) := (((Only.refl _ _).alloc _).drew).drew
      refine h1.trans (HF2.out.mono fun k hk => ?_)
      rw [HE.out] at hk
      simp only [own, List.mem_cons]
      exact .inr hk
    refine ⟨rfl, ho.setCell (by simp [own]) _, some hb1, ?_, .slice (some ⟨hb1, 0, none⟩) (l.length + 1) cap1, rfl, (HGG.out.only HF2.out HN1.out).set 1 _, ?_, by simp; omega, h5, h6, h7⟩
    · rcases HF3.out with h9 | h9
      · exact .inl (h9.trans HE.out)
      · refine .inr ⟨hb1, rfl, ?_⟩
        simp at h9
        omega
    · have e2 : l.flatMap Sp.enc ++ Sp.enc s = (l ++ [s]).flatMap Sp.enc := by simp
      have e3 : (l ++ [s]).length = l.length + 1 := by simp
      rw [← e2, e3]
      obtain ⟨g1, g2⟩ := HF1.out
      refine ⟨g1, g2.imp id ?_⟩
      rintro ⟨k, cp, cur, q1, q2, q3, q4⟩
      exact ⟨k, cp, cur, q1, q2, (Below.heap_setCell _ _ _ _ (by show k ≠ g; omega)).trans q3, q4⟩
end C25
end Go.Proofs.Ytefaegoajjcfjaa
