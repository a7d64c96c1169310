/- Walks of layer 22 (wheel): all that is on it; no condition. -/
import Derived.Test.YthmopkaecbebpaaG22
namespace Go.Peri
open Go.RowKit
/-- A row that grows. -/
structure One {α : Type} (ea : α → List Value) (ka ta : Nat) (B : Nat) (w0 wr : World) (va : Value) (la : List α) : Prop where
  bel : Below B w0 wr
  d : wr.ownsRow B ta ka va la.length (la.flatMap ea)
section
variable {α : Type} {ea : α → List Value} {ka ta : Nat} {B : Nat} {w0 wr : World} {va : Value} {la : List α}
theorem One.start (w : World) {B : Nat} : One ea ka ta B w w (.slice none 0 0) [] := ⟨Below.refl _ _, World.ownsRow_nil _ _ _ _⟩
theorem One.alloc (h : One ea ka ta B w0 wr va la) (hB : B ≤ wr.heap.size) (o : Obj) : One ea ka ta B w0 (wr.alloc o) va la := ⟨h.bel.alloc hB o, h.d.alloc _⟩
theorem One.push {w1 : World} {v' : Value} {x : α} (h : One ea ka ta B w0 wr va la) (hb : Below B wr w1) (hown : w1.ownsRow B ta ka v' (la.length + 1) (la.flatMap ea ++ ea x)) : One ea ka ta B w0 w1 v' (la ++ [x]) :=
  ⟨h.bel.trans hb, by simpa using hown⟩
theorem One.later {w' : World} (h : One ea ka ta B w0 wr va la) (hb : Below wr.heap.size wr w') (hB : B ≤ wr.heap.size) : One ea ka ta B w0 w' va la :=
  ⟨h.bel.trans (hb.mono hB), owns_later h.d hb⟩
end
end Go.Peri
namespace Go.Proofs.Ythmopkaecbebpaa
open Go.RowKit Go.Peri
namespace C22
def hitK (n k : Nat) (R : List Du) (j : Nat) : List Du := ((R.take j).filter (fun d => decide (d.at_ = (k : Int) / 16))).map (fun d => ⟨d.id, (n : Int) + ((k : Int) + 1)⟩)
theorem hitK_hit {n k : Nat} {R : List Du} {j : Nat} (hj : j < R.length) (h : R[j].at_ = (k : Int) / 16) : hitK n k R (j + 1) = hitK n k R j ++ [⟨R[j].id, (n : Int) + ((k : Int) + 1)⟩] := by
  unfold hitK
  rw [List.take_succ_eq_append_getElem hj]
  simp only [List.filter_append, List.map_append, List.filter_cons, h, decide_true, if_true, List.filter_nil, List.map_cons, List.map_nil]
theorem hitK_miss {n k : Nat} {R : List Du} {j : Nat} (hj : j < R.length) (h : R[j].at_ ≠ (k : Int) / 16) : hitK n k R (j + 1) = hitK n k R j := by
  unfold hitK
  rw [List.take_succ_eq_append_getElem hj]
  simp only [List.filter_append, List.map_append, List.filter_cons, h, decide_false, Bool.false_eq_true, if_false, List.filter_nil, List.map_nil, List.append_nil]
theorem hitK_len (n k : Nat) (R : List Du) (j : Nat) : (hitK n k R j).length ≤ R.length := by
  unfold hitK
  rw [List.length_map]
  exact Nat.le_trans (List.length_filter_le _ _) (by rw [List.length_take]; omega)
set_option maxRecDepth 100000 in
set_option maxHeartbeats 4000000 in
theorem all_any (g n : Nat) (F : List Nat) (l : List Du) (w : World) (h : WhIs w g F n l) (hn : n ≤ 1000000) :
    Calls Try.prog 27 #[.pointer (some ⟨g, 0, none⟩)] w fun e w' => ∃ a cap, e = .returned (.slice a (Wh.sorted n l 50).length cap) ∧ Below w.heap.size w w' ∧ Hid (RowsOf (fun b => w.heap.size ≤ b ∧ b < w'.heap.size) Du.enc 2 w' (.slice a (Wh.sorted n l 50).length cap) (Wh.sorted n l 50)) := by
  obtain ⟨vs, rfl, h⟩ := h
  have c0 : w.cell? ⟨g, 0, none⟩ = some (.int .i64 n) := h.blk.cell 0
  have hgl := h.blk.lt
  have hl32 := h.inv.len
  have HH := hid h
  have HT0 : Hid (One Du.enc 2 130 w.heap.size w w (.slice none 0 0) (Wh.sorted n l 0)) := One.start w
  clear h
  go_enter Try.func27, Try.ntmps27
  go_wp2_with fail
  go_loopw [3, 4] (fun vo ix wr => ∃ k : Nat, k ≤ 50 ∧ ix = .int .i64 ((k : Int) + 1) ∧ One Du.enc 2 130 w.heap.size w wr vo (Wh.sorted n l k)) (fun _ ix _ => 51 - (intOf ix).toNat)
  case atStart => exact ⟨0, by omega, rfl, HT0.out⟩
  case round =>
    obtain ⟨k, hk, rfl, ht⟩ := hrel
    have HT := hid ht
    have hsr := ht.bel.size
    have d0 := (ht.bel.cell (p := ⟨g, 0, none⟩) hgl).trans c0
    have hsl := Wh.sorted_len (n := n) (l := l) k
    have hsl2 : (Wh.sorted n l k).length ≤ 1600 := Nat.le_trans hsl (Nat.le_trans (Nat.mul_le_mul hk hl32) (by decide))
    clear ht HT0 hsl
    by_cases hlt : k < 50
    · obtain ⟨i, hi⟩ : ∃ i, i = (n + (k + 1)) % 16 := ⟨_, rfl⟩
      have hi16 : i < 16 := by omega
      have hiv : i < vs.length := by rw [HH.out.len]; exact hi16
      obtain ⟨a, cap, ev, ci⟩ := HH.out.form i hiv
      have hown := HH.out.own i hiv
      rw [ev] at hown
      have r1 : ((n : Int) + ((k : Int) + 1)) % 16 = (i : Int) := by omega
      have har := Wh.at_row HH.out.inv hlt r1
      obtain ⟨R, hR⟩ : ∃ R, R = Wh.row n l i := ⟨_, rfl⟩
      have hRl : R.length ≤ 32 := by rw [hR]; exact Nat.le_trans (Wh.row_len n l i) hl32
      rw [← hR] at ev ci hown har
      have HR1 := hid r1
      have HAR := hid har
      have x2 := (HT.out.bel.cell (p := ⟨g, 2 + i, none⟩) hgl).trans ci
      have HRW := hid (RowsOf.of_owns (e := 132) Du.enc_length hown)
      obtain ⟨_, _, hslc, hlc, hcm, _, hcell⟩ := HRW.out
      cases hslc
      have HC := hid hcell
      have hI16 : (i : Int) < 16 := by omega
      have x3 : wr.cell? ⟨g, 2 + (n + (k + 1)) % 16, none⟩ = some (.slice a R.length cap) := by rw [← hi]; exact x2
      have HT1 : Hid (One Du.enc 2 130 w.heap.size w wr u3 (Wh.sorted n l k ++ hitK n k R 0)) := by
        show One _ _ _ _ _ _ _ _
        rw [show hitK n k R 0 = [] from rfl, List.append_nil]
        exact HT.out
      clear hown ev r1 hR har hcell ci hi x2
      go_wp2_with fail
      go_loopw [3, 28] (fun vo ix wx => ∃ j : Nat, j ≤ R.length ∧ ix = .int .i64 j ∧ One Du.enc 2 130 w.heap.size w wx vo (Wh.sorted n l k ++ hitK n k R j)) (fun _ ix _ => R.length - (intOf ix).toNat)
      case atStart => exact ⟨0, Nat.zero_le _, rfl, HT1.out⟩
      case round =>
        clear HT HT1 d0 x3
        obtain ⟨j, hj, rfl, ht⟩ := hrel
        have HT := hid ht
        have hsx := ht.bel.size
        clear ht
        by_cases hlt2 : j < R.length
        · obtain ⟨b, off, rfl, hpb, hc⟩ := HC.out.resolve_left (by intro e; rw [e] at hlt2; simp at hlt2)
          obtain ⟨y0, y1⟩ := Du.cells (fun q u hu => (HT.out.bel.cell (p := ⟨b, off + j * 2 + q, none⟩) hpb.2).trans (hc j hlt2 q u hu))
          have hbl : b < wr.heap.size := by have := hpb.2; omega
          have hhl := hitK_len n k R j
          have hlen : (Wh.sorted n l k ++ hitK n k R j).length ≤ 1632 := by rw [List.length_append]; omega
          by_cases hz : R[j].at_ = (k : Int) / 16
          · have HK := hid (hitK_hit (n := n) hlt2 hz)
            clear hc
            rw [hz] at y1
            generalize R[j].id = yid at y0 HK
            have hx : Hid (One Du.enc 2 130 w.heap.size w (wr.alloc (.cells #[.int .i64 yid, .int .i64 ((k : Int) / 16)] 132)) u3 (Wh.sorted n l k ++ hitK n k R j)) := HT.out.alloc hsx _
            have HLEN := hid hlen
            have hb63 : (Wh.sorted n l k ++ hitK n k R j).length + 1 ≤ 1633 := by omega
            clear hlen hhl
            have hHK : Hid (hitK n k R (j + 1) = hitK n k R j ++ [⟨yid, (n : Int) + ((k : Int) + 1)⟩]) := HK
            go_wp2_with (at_builtin; refine wpList_push (w0 := wr.alloc (.cells #[.int .i64 yid, .int .i64 ((k : Int) / 16)] 132)) (T := 130) (news := Du.enc ⟨yid, (n : Int) + ((k : Int) + 1)⟩) elemD rfl _ _ rfl w.heap.size _ _ _ rfl hx.out.d rfl (by first | rfl | simp [Act.eval]) rfl (by intro u hu; exact Du.one [⟨yid, (n : Int) + ((k : Int) + 1)⟩] u (by simpa using hu)) ?_ ?_ ?_ ?_)
            · unfold maxLen; omega
            · omega
            · simp; omega
            intro v1 w1 hown1 hb1
            have HN : Hid (One Du.enc 2 130 w.heap.size w w1 v1 (Wh.sorted n l k ++ hitK n k R (j + 1))) := by
              show One _ _ _ _ _ _ _ _
              rw [hHK.out, ← List.append_assoc]
              exact hx.out.push hb1 (by simpa [Nat.add_assoc] using hown1)
            clear hown1 hb1 hx
            go_wp2_with fail
            go_roundw
            case rel => exact ⟨j + 1, by omega, by go_num, HN.out⟩
            case measure => simp [intOf]; omega
          · have HK := hid (hitK_miss (n := n) hlt2 hz)
            clear hc
            generalize R[j].id = yid at y0
            generalize R[j].at_ = yat at y1 hz
            have hz2 : (yat == (k : Int) / 16) = false := by simpa using hz
            have hx : Hid (One Du.enc 2 130 w.heap.size w (wr.alloc (.cells #[.int .i64 yid, .int .i64 yat] 132)) u3 (Wh.sorted n l k ++ hitK n k R (j + 1))) := by
              show One _ _ _ _ _ _ _ _
              rw [HK.out]
              exact HT.out.alloc hsx _
            clear hlen hhl hz
            go_wp2_with fail
            go_roundw
            case rel => exact ⟨j + 1, by omega, by go_num, hx.out⟩
            case measure => simp [intOf]; omega
        · obtain rfl : j = R.length := by omega
          have HN : Hid (One Du.enc 2 130 w.heap.size w wr u3 (Wh.sorted n l (k + 1))) := by
            have h0 : hitK n k R R.length = l.filter (fun d => decide (d.at_ = (n : Int) + ((k : Int) + 1))) := by
              rw [HAR.out]
              unfold hitK
              rw [List.take_length]
            have := HT.out
            rw [h0] at this
            exact this
          go_wp2_with fail
          go_roundw
          case rel => exact ⟨k + 1, by omega, by go_num, HN.out⟩
          case measure => simp [intOf]; omega
    · obtain rfl : k = 50 := by omega
      obtain ⟨a5, cap5, rfl⟩ := owns_form HT.out.d
      go_wp2_with fail
      go_ret
      exact ⟨_, _, rfl, HT.out.bel, RowsOf.of_owns Du.enc_length HT.out.d⟩
end C22
end Go.Proofs.Ythmopkaecbebpaa
