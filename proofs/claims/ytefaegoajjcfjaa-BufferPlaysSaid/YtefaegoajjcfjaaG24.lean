/- Walks of layer 24 (opens): two lists put together (slices.Concat, slices.Grow); no condition. -/
import Derived.Test.YtefaegoajjcfjaaF24
import Derived.Lib.AppendZerosOnto
namespace Go.Peri
open Go.RowKit
/-- 'append(nil, make([]T, n)...)'. -/
theorem run_grow_nil {P : Program} {t tn e : TypeId} {size bytes : Nat} (E : Elem P t e size bytes) (htn : P.underlying tn = some (.int .i64)) (n : Nat) (hn : 0 < n) (h63 : n ≤ 1000000000000) (hb : n * bytes ≤ 140737488355328) (w : World) :
    ∃ G cur, (∀ ty, (Builtin.append_ #[t, tn] ty #[.slice none 0 0, .int .i64 (n : Int)]).run P w = .ok (.slice (some ⟨w.heap.size, 0, none⟩) n G) (w.drew.alloc (.cells cur e))) ∧ n ≤ G ∧ G ≤ maxLen ∧ cur.size = G * size := by
  obtain ⟨i, z, hi, hz, hsz, hby, hzs⟩ := E.info
  have hold : (Builtin.firstCells i.size 0 (.slice none 0 0)).run P w.drew = .ok ([] : List Value).toArray w.drew := run_firstCells_none w.drew i.size 0 0 0
  have hg := grownCap_ge w (0 + n) 0 e
  have hm := grownCap_le_maxLen w (0 + n) 0 e (by unfold maxLen; omega)
  have hrun := fun ty => Lib.run_append_grow_zeros w t tn ty e i z .i64 .i64 E.under htn hi hz none 0 0 [] hold n hn (by rw [hsz]; exact E.pos) (by omega) (by omega) (by rw [hby]; omega) (growslice_fits (by omega) (by rw [hby, Nat.zero_add]; exact hb))
  simp only [Nat.zero_add] at hrun hg hm
  refine ⟨_, _, hrun, hg, hm, ?_⟩
  simp only [Array.size_append, size_zeroCells, hzs]
  simp
  rw [← Nat.add_mul]
  congr 1
  omega
theorem Cellz.of_eq {p : Nat → Prop} {size n : Nat} {w : World} {v : Value} {xs ys : List Value} (h : Cellz p size w v n xs) (e : xs = ys) : Cellz p size w v n ys := e ▸ h
end Go.Peri
namespace Go.Proofs.Ytefaegoajjcfjaa
open Go.RowKit Go.Peri
namespace C24

def OwnQ (w : World) (l : List Opn) (v : Value) (w' : World) : Prop := w'.ownsRow w.heap.size 129 12 v l.length (l.flatMap Opn.enc) ∧ Below w.heap.size w w'

set_option maxRecDepth 100000 in
set_option maxHeartbeats 2000000 in
theorem grow_nil (n : Nat) (W : World) (hn : n ≤ 1000000000) : Calls Try.prog 80 #[.slice none 0 0, .int .i64 n] W (Ret (OwnQ W [])) := by
  by_cases h0 : n = 0
  · subst h0
    go_enter Try.func80, Try.ntmps80
    go_wp2_with fail
    go_ret
    exact ⟨_, rfl, World.ownsRow_nil _ _ _ _, Below.refl _ _⟩
  · obtain ⟨G, cur, hr, hG, hm, hs⟩ := run_grow_nil (P := Try.prog) (tn := 3) elem93 (by kernel_rfl) n (by omega) (by omega) (by omega) W
    have h1 : (0 : Int) < (n : Int) := by omega
    have h2 : ¬ (n : Int) < 0 := by omega
    have HS := hid hs
    have HM := hid hm
    have hG0 : (0 : Nat) ≤ G := Nat.zero_le _
    have hm' : G ≤ 9223372036854775807 := by unfold maxLen at hm; omega
    clear hs hm
    go_enter Try.func80, Try.ntmps80
    go_wp2_with (at_builtin; refine Lib.wpList_append_run _ rfl _ _ _ _ rfl _ _ rfl rfl _ _ (hr _) ?_)
    go_ret
    refine ⟨_, rfl, ?_, ((Below.refl _ W).drew).alloc (Nat.le_refl _) _⟩
    exact World.ownsRow_made (w := W.drew) (base := W.heap.size) (size := 12) cur G (Nat.le_refl _) HM.out HS.out

set_option maxRecDepth 100000 in
set_option maxHeartbeats 4000000 in
theorem concat_two {p q : Nat → Prop} (g : Nat) (u v : Value) (l m : List Opn) (W : World) (hg : g < W.heap.size) (c0 : W.cell? ⟨g, 0, none⟩ = some u) (c1 : W.cell? ⟨g, 1, none⟩ = some v) (h : RowsOf p Opn.enc 12 W u l) (hp : ∀ b, p b → b < W.heap.size)
    (k : RowsOf q Opn.enc 12 W v m) (hq : ∀ b, q b → b < W.heap.size) (hl : l.length ≤ 100000) (hm : m.length ≤ 100000) :
    Calls Try.prog 74 #[.slice (some ⟨g, 0, none⟩) 2 2] W (Ret (OwnQ W (l ++ m))) := by
  have HL := hid (h.cellz Opn.enc_length)
  have HM := hid (k.cellz Opn.enc_length)
  have HP := hid hp
  have HQ := hid hq
  obtain ⟨a1, cap1, rfl, hlc1, hcm1, _⟩ := h
  obtain ⟨a2, cap2, rfl, hlc2, hcm2, _⟩ := k
  have HC0 := hid c0
  have HC1 := hid c1
  clear hp hq
  go_enter Try.func74, Try.ntmps74
  go_wp2_with fail
  go_loopw [3, 11] (fun s i wr => W = wr ∧ ((s = .int .i64 0 ∧ i = .int .i64 0) ∨ (s = .int .i64 l.length ∧ i = .int .i64 1) ∨ (s = .int .i64 (l.length + m.length : Nat) ∧ i = .int .i64 2))) (fun _ i _ => 2 - (intOf i).toNat)
  case atStart => exact ⟨rfl, .inl ⟨rfl, rfl⟩⟩
  case round =>
    obtain ⟨rfl, ⟨rfl, rfl⟩ | ⟨rfl, rfl⟩ | ⟨rfl, rfl⟩⟩ := hrel
    · have z1 : ¬ (l.length : Int) < 0 := by omega
      go_wp2_with fail
      go_roundw
      case rel => exact ⟨trivial, .inr (.inl ⟨by go_num, rfl⟩)⟩
      case measure => simp [intOf]
    · have z1 : ¬ ((l.length : Int) + (m.length : Int)) < 0 := by omega
      go_wp2_with fail
      go_roundw
      case rel => exact ⟨trivial, .inr (.inr ⟨by go_num, rfl⟩)⟩
      case measure => simp [intOf]
    · go_wp2_with fail
      refine (grow_nil (l.length + m.length) _ (by omega)).mono ?_
      rintro e w1 ⟨v0, rfl, hown, hb⟩
      have HO0 := hid hown
      have HB0 := hid hb
      clear hown hb c0 c1
      go_wp2_with fail
      go_loopw [6, 27] (fun o i wr => Below W.heap.size W wr ∧ ((i = .int .i64 0 ∧ wr.ownsRow W.heap.size 129 12 o 0 []) ∨ (i = .int .i64 1 ∧ wr.ownsRow W.heap.size 129 12 o l.length (l.flatMap Opn.enc)) ∨ (i = .int .i64 2 ∧ wr.ownsRow W.heap.size 129 12 o (l.length + m.length) (l.flatMap Opn.enc ++ m.flatMap Opn.enc)))) (fun _ i _ => 2 - (intOf i).toNat)
      case atStart => exact ⟨HB0.out, .inl ⟨rfl, HO0.out⟩⟩
      case round =>
        rename_i o i wr
        obtain ⟨hb, ⟨rfl, ho⟩ | ⟨rfl, ho⟩ | ⟨rfl, ho⟩⟩ := hrel
        · have HB := hid hb
          have HO := hid ho
          have d0 := (hb.cell (p := ⟨g, 0, none⟩) hg).trans HC0.out
          have hsz := hb.size
          clear hb ho
          go_wp2_with (at_builtin; refine wpList_pushCells elem93 rfl _ _ rfl W.heap.size _ 0 [] rfl HO.out rfl (HL.out.below HB.out HP.out) (one_cells l) ?_ ?_ hsz ?_)
          · unfold maxLen; omega
          · omega
          intro v1 w2 hown1 hb1
          have HB1 : Hid (Below W.heap.size W w2) := HB.out.trans hb1
          have HO1 := hid hown1
          clear hown1 hb1
          go_wp2_with fail
          go_roundw
          case rel => exact ⟨HB1.out, .inr (.inl ⟨rfl, HO1.out⟩)⟩
          case measure => simp [intOf]
        · have HB := hid hb
          have HO := hid ho
          have d0 := (hb.cell (p := ⟨g, 1, none⟩) hg).trans HC1.out
          have hsz := hb.size
          clear hb ho
          go_wp2_with (at_builtin; refine wpList_pushCells elem93 rfl _ _ rfl W.heap.size _ _ _ rfl HO.out rfl (HM.out.below HB.out HQ.out) (one_cells m) ?_ ?_ hsz ?_)
          · unfold maxLen; omega
          · omega
          intro v1 w2 hown1 hb1
          have HB1 : Hid (Below W.heap.size W w2) := HB.out.trans hb1
          have HO1 := hid hown1
          clear hown1 hb1
          go_wp2_with fail
          go_roundw
          case rel => exact ⟨HB1.out, .inr (.inr ⟨rfl, HO1.out⟩)⟩
          case measure => simp [intOf]
        · have HB := hid hb
          have HO := hid ho
          clear hb ho
          go_wp2_with fail
          go_ret
          refine ⟨_, rfl, ?_, HB.out⟩
          have := HO.out
          rw [List.length_append, List.flatMap_append]
          exact this
end C24
end Go.Proofs.Ytefaegoajjcfjaa
