/- Walks of layer 22 (wheel): the document's Set, and what is on a wheel by time; no condition. -/
import Derived.Test.YthmopkaecbebpaaK22
import Derived.Test.YthmopkaecbebpaaM22
namespace Go.Proofs.Ythmopkaecbebpaa
open Go.RowKit Go.Peri
namespace C22
/-- What the document's Set gives. -/
def RSetQ (p : Nat → Prop) (W : World) (n : Nat) (l : List Du) (x : Int) (e : Ending) (w' : World) : Prop :=
  ∃ a cap, e = .returned (.tuple #[.agg #[.int .i64 n, .slice a l.length cap], .int .i64 x]) ∧ Below W.heap.size W w' ∧ Hid (RowsOf (fun b => p b ∨ (W.heap.size ≤ b ∧ b < w'.heap.size)) Du.enc 2 w' (.slice a l.length cap) l)
set_option maxRecDepth 100000 in
theorem rset_no {p : Nat → Prop} (n : Nat) (v : Value) (l : List Du) (id t x : Int) (W : World) (h : RowsOf p Du.enc 2 W v l) (hp : ∀ b, p b → b < W.heap.size) (hx : (t < 1 ∧ x = 12) ∨ (1 ≤ t ∧ 50 < t ∧ x = 12) ∨ (1 ≤ t ∧ t ≤ 50 ∧ 32 ≤ l.length ∧ x = 8)) :
    Calls Try.prog 22 #[.agg #[.int .i64 n, v], .int .i64 id, .int .i64 t] W (RSetQ p W n l x) := by
  have HH := hid h
  have HP := hid hp
  obtain ⟨a, cap, rfl, _⟩ := h
  clear hp
  rcases hx with ⟨h1, rfl⟩ | ⟨h0, h1, rfl⟩ | ⟨h0, h1, h2, rfl⟩
  · go_enter Try.func22, Try.ntmps22
    go_wp2_with fail
    refine bodyPost_ret (by simp [results, Try.results22, go_sem]; try rfl) rfl ?_
    exact ⟨_, _, rfl, by go_grown, (HH.out.below (by go_grown) HP.out).imp (fun b hb => .inl hb)⟩
  · have h3 : ¬ t < 1 := by omega
    go_enter Try.func22, Try.ntmps22
    go_wp2_with fail
    refine bodyPost_ret (by simp [results, Try.results22, go_sem]; try rfl) rfl ?_
    exact ⟨_, _, rfl, by go_grown, (HH.out.below (by go_grown) HP.out).imp (fun b hb => .inl hb)⟩
  · have h3 : ¬ t < 1 := by omega
    have h4 : ¬ 50 < t := by omega
    have h5 : (32 : Int) ≤ (l.length : Int) := by omega
    go_enter Try.func22, Try.ntmps22
    go_wp2_with fail
    refine bodyPost_ret (by simp [results, Try.results22, go_sem]; try rfl) rfl ?_
    exact ⟨_, _, rfl, by go_grown, (HH.out.below (by go_grown) HP.out).imp (fun b hb => .inl hb)⟩
set_option maxRecDepth 100000 in
set_option maxHeartbeats 1000000 in
theorem rset_more {p : Nat → Prop} (n : Nat) (v : Value) (l : List Du) (id t : Int) (W : World) (h : RowsOf p Du.enc 2 W v l) (hp : ∀ b, p b → b < W.heap.size) (hn : n ≤ 1000000) (h1 : 1 ≤ t) (h2 : t ≤ 50) (h3 : l.length < 32) :
    Calls Try.prog 22 #[.agg #[.int .i64 n, v], .int .i64 id, .int .i64 t] W (RSetQ p W n (l ++ [⟨id, (n : Int) + t⟩]) 0) := by
  have g1 : ¬ t < 1 := by omega
  have g2 : ¬ 50 < t := by omega
  have g3 : ¬ (32 : Int) ≤ (l.length : Int) := by omega
  have HH := hid h
  have HP := hid hp
  obtain ⟨a, cap, rfl, _⟩ := h
  clear hp
  go_enter Try.func22, Try.ntmps22
  go_upto_region 6 with fail
  refine wpGen ?_
  intro w0 hw0
  have HB0 : Hid (Below W.heap.size W w0) := by show Below _ _ _; rw [hw0]; go_grown
  have HX0 : Hid (Blk w0 W.heap.size #[.int .i64 n, .slice a l.length cap] 28) := by show Blk _ _ _ _; rw [hw0]; exact (Blk.new _ _ _).alloc _
  have HY0 : Hid (Blk w0 (W.heap.size + 1) #[.int .i64 0, .slice none 0 0] 28) := by show Blk _ _ _ _; rw [hw0]; exact Blk.new' _ _ _ (by simp)
  have hs0 : W.heap.size + 2 ≤ w0.heap.size := by rw [hw0]; simp
  clear hw0
  have HCZ : Hid (Cellz p 2 w0 (.slice a l.length cap) l.length (l.flatMap Du.enc)) := (HH.out.below HB0.out HP.out).cellz Du.enc_length
  have x0 : w0.cell? ⟨W.heap.size, 0, none⟩ = some (.int .i64 n) := HX0.out.cell 0
  have x1 : w0.cell? ⟨W.heap.size, 1, none⟩ = some (.slice a l.length cap) := HX0.out.cell 1
  go_wp2_with (at_builtin; refine wpList_pushCells elemD rfl _ _ rfl w0.heap.size _ 0 [] rfl (World.ownsRow_nil _ _ _ _) rfl HCZ.out (Du.one l) ?_ ?_ ?_ ?_)
  · unfold maxLen; omega
  · omega
  intro v1 w1 hown1 hb1
  have HO1 : Hid (w1.ownsRow w0.heap.size 130 2 v1 l.length (l.flatMap Du.enc)) := hid (by simpa using hown1)
  have HX1 := hid (HX0.out.later hb1)
  have HY1 := hid (HY0.out.later hb1)
  have hs1 := hb1.size
  have HB1 : Hid (Below W.heap.size W w1) := HB0.out.trans (hb1.mono (by omega))
  have y0 : w1.cell? ⟨W.heap.size, 0, none⟩ = some (.int .i64 n) := HX1.out.cell 0
  clear hown1 hb1 x0 x1
  go_wp2_with (at_builtin; refine wpList_push (w0 := w1) (T := 130) (news := Du.enc ⟨id, (n : Int) + t⟩) elemD rfl _ _ rfl w0.heap.size _ _ _ rfl HO1.out rfl rfl rfl (by intro u hu; exact Du.one [⟨id, (n : Int) + t⟩] u (by simpa using hu)) ?_ ?_ hs1 ?_)
  · unfold maxLen; omega
  · omega
  intro v2 w2 hown2 hb2
  have hr2 : RowsOf (fun b => w0.heap.size ≤ b ∧ b < w2.heap.size) Du.enc 2 w2 v2 (l ++ [⟨id, (n : Int) + t⟩]) := by
    refine RowsOf.of_owns (e := 130) Du.enc_length ?_
    simpa using hown2
  obtain ⟨L, hL⟩ : ∃ L, L = l ++ [⟨id, (n : Int) + t⟩] := ⟨_, rfl⟩
  rw [← hL] at hr2
  have HR2 := hid hr2
  obtain ⟨a2, cap2, rfl, _⟩ := hr2
  have HL := hid hL
  clear hL
  have HB2 : Hid (Below W.heap.size W w2) := HB1.out.trans (hb2.mono (by omega))
  have HX2 := hid (HX1.out.below hb2 (by omega))
  have HY2 := hid (HY1.out.below hb2 (by omega))
  have hs2 := hb2.size
  have z0 : w2.cell? ⟨W.heap.size, 0, none⟩ = some (.int .i64 n) := HX2.out.cell 0
  have z1 : w2.cell? ⟨W.heap.size, 1, none⟩ = some (.slice a l.length cap) := HX2.out.cell 1
  have zf := HX2.out.free 1
  clear hown2 hb2 y0
  go_upto_region 9 with fail
  refine wpGen ?_
  intro w3 hw3
  have hO3 : Only [W.heap.size] w2 w3 := by rw [hw3]; exact (Only.refl _ _).setCell (by simp) _
  have HX3 : Hid (Blk w3 W.heap.size #[.int .i64 n, .slice a2 L.length cap2] 28) := by show Blk _ _ _ _; rw [hw3]; exact HX2.out.set 1 _
  have HY3 := hid (HY2.out.only hO3 (by simp))
  have HO3 := hid hO3
  clear hw3 hO3 z0 z1 zf
  have z0 : w3.cell? ⟨W.heap.size, 0, none⟩ = some (.int .i64 n) := HX3.out.cell 0
  have z1 : w3.cell? ⟨W.heap.size, 1, none⟩ = some (.slice a2 L.length cap2) := HX3.out.cell 1
  have t0 : w3.cell? ⟨W.heap.size + 1, 0, none⟩ = some (.int .i64 0) := HY3.out.cell 0
  have t1 : w3.cell? ⟨W.heap.size + 1, 1, none⟩ = some (.slice none 0 0) := HY3.out.cell 1
  have tf0 := HY3.out.free 0
  have tf1 := HY3.out.free 1
  have hg5 := HX3.out.lt
  have hg6 := HY3.out.lt
  go_wp2_with fail
  refine bodyPost_ret (by simp [results, Try.results22, go_sem, t0, t1]; try rfl) rfl ?_
  have hO : ∀ u v, Only [W.heap.size, W.heap.size + 1] w2 ((w3.setCell ⟨W.heap.size + 1, 0, none⟩ u).setCell ⟨W.heap.size + 1, 1, none⟩ v) := fun u v => (((HO3.out.mono (by simp)).setCell (p := ⟨W.heap.size + 1, 0, none⟩) (by simp) u).setCell (p := ⟨W.heap.size + 1, 1, none⟩) (by simp) v)
  rw [← HL.out]
  refine ⟨_, _, rfl, HB2.out.trans ((hO _ _).below (by omega) (by simp)), ?_⟩
  exact (HR2.out.only (hO _ _) (fun b hb => ⟨hb.2, by simp; omega⟩)).imp (fun b hb => .inr ⟨by omega, Nat.lt_of_lt_of_le hb.2 (hO _ _).size⟩)
theorem rset_any {p : Nat → Prop} (n : Nat) (v : Value) (l : List Du) (id t x : Int) (l' : List Du) (W : World) (h : RowsOf p Du.enc 2 W v l) (hp : ∀ b, p b → b < W.heap.size) (hn : n ≤ 1000000) (hx : Wh.setE l t = x) (hl' : Wh.setL n l id t = l') :
    Calls Try.prog 22 #[.agg #[.int .i64 n, v], .int .i64 id, .int .i64 t] W (RSetQ p W n l' x) := by
  subst hx hl'
  by_cases h0 : Wh.setE l t = 0
  · obtain ⟨h1, h2, h3⟩ := Wh.setE_ok h0
    unfold Wh.setL
    rw [if_pos h0, h0]
    exact rset_more n v l id t W h hp hn h1 h2 h3
  · unfold Wh.setL
    rw [if_neg h0]
    refine rset_no n v l id t _ W h hp ?_
    unfold Wh.setE at h0 ⊢
    by_cases h1 : t < 1
    · exact .inl ⟨h1, by rw [if_pos (.inl h1)]⟩
    · by_cases h2 : 50 < t
      · exact .inr (.inl ⟨by omega, h2, by rw [if_pos (.inr h2)]⟩)
      · have h12 : ¬ (t < 1 ∨ 50 < t) := by omega
        rw [if_neg h12] at h0 ⊢
        by_cases h3 : 32 ≤ l.length
        · exact .inr (.inr ⟨by omega, by omega, h3, by rw [if_pos h3]⟩)
        · rw [if_neg h3] at h0
          exact absurd rfl h0
def atK (n k : Nat) (l : List Du) (j : Nat) : List Du := (l.take j).filter (fun d => decide (d.at_ = (n : Int) + ((k : Int) + 1)))
theorem atK_hit {n k : Nat} {l : List Du} {j : Nat} (hj : j < l.length) (h : l[j].at_ = (n : Int) + ((k : Int) + 1)) : atK n k l (j + 1) = atK n k l j ++ [l[j]] := by
  unfold atK
  rw [List.take_succ_eq_append_getElem hj]
  simp only [List.filter_append, List.filter_cons, h, decide_true, if_true, List.filter_nil]
theorem atK_miss {n k : Nat} {l : List Du} {j : Nat} (hj : j < l.length) (h : l[j].at_ ≠ (n : Int) + ((k : Int) + 1)) : atK n k l (j + 1) = atK n k l j := by
  unfold atK
  rw [List.take_succ_eq_append_getElem hj]
  simp only [List.filter_append, List.filter_cons, h, decide_false, Bool.false_eq_true, if_false, List.filter_nil, List.append_nil]
theorem atK_len (n k : Nat) (l : List Du) (j : Nat) : (atK n k l j).length ≤ l.length := by
  unfold atK
  exact Nat.le_trans (List.length_filter_le _ _) (by rw [List.length_take]; omega)
set_option maxRecDepth 100000 in
set_option maxHeartbeats 2000000 in
theorem sorted_any {p : Nat → Prop} (n : Nat) (v : Value) (l : List Du) (W : World) (h : RowsOf p Du.enc 2 W v l) (hp : ∀ b, p b → b < W.heap.size) (hn : n ≤ 1000000) (hl : l.length ≤ 32) :
    Calls Try.prog 28 #[.agg #[.int .i64 n, v]] W fun e w' => ∃ a cap, e = .returned (.slice a (Wh.sorted n l 50).length cap) ∧ Below W.heap.size W w' ∧ Hid (RowsOf (fun b => W.heap.size ≤ b ∧ b < w'.heap.size) Du.enc 2 w' (.slice a (Wh.sorted n l 50).length cap) (Wh.sorted n l 50)) := by
  have HP := hid hp
  obtain ⟨a, cap, rfl, hlc, hcm, _, hcell⟩ := h
  have HC := hid hcell
  clear hcell hp
  go_enter Try.func28, Try.ntmps28
  go_upto_region 1 with fail
  refine wpGen ?_
  intro w0 hw0
  have HB0 : Hid (Below W.heap.size W w0) := by show Below _ _ _; rw [hw0]; go_grown
  have HX0 : Hid (Blk w0 W.heap.size #[.int .i64 n, .slice a l.length cap] 28) := by show Blk _ _ _ _; rw [hw0]; exact Blk.new _ _ _
  have hs0 : W.heap.size + 1 ≤ w0.heap.size := by rw [hw0]; simp
  clear hw0
  have HT0 : Hid (One Du.enc 2 130 w0.heap.size w0 w0 (.slice none 0 0) (Wh.sorted n l 0)) := One.start w0
  have x0 : w0.cell? ⟨W.heap.size, 0, none⟩ = some (.int .i64 n) := HX0.out.cell 0
  go_wp2_with fail
  go_loopw [3, 4] (fun vo ix wr => ∃ k : Nat, k ≤ 50 ∧ ix = .int .i64 ((n : Int) + ((k : Int) + 1)) ∧ One Du.enc 2 130 w0.heap.size w0 wr vo (Wh.sorted n l k)) (fun _ ix _ => n + 51 - (intOf ix).toNat)
  case atStart => exact ⟨0, by omega, rfl, HT0.out⟩
  case round =>
    obtain ⟨k, hk, rfl, ht⟩ := hrel
    have HT := hid ht
    have hsr := ht.bel.size
    have hbx := HX0.out.later ht.bel
    have d0 : wr.cell? ⟨W.heap.size, 0, none⟩ = some (.int .i64 n) := hbx.cell 0
    have d1 : wr.cell? ⟨W.heap.size, 1, none⟩ = some (.slice a l.length cap) := hbx.cell 1
    have hsl := Wh.sorted_len (n := n) (l := l) k
    have hsl2 : (Wh.sorted n l k).length ≤ 1600 := Nat.le_trans hsl (Nat.le_trans (Nat.mul_le_mul hk hl) (by decide))
    clear ht HT0 hsl hbx x0
    by_cases hlt : k < 50
    · have hk50 : decide ((k : Int) + 1 ≤ 50) = true := by simp; omega
      have HT1 : Hid (One Du.enc 2 130 w0.heap.size w0 wr u3 (Wh.sorted n l k ++ atK n k l 0)) := by
        show One _ _ _ _ _ _ _ _
        rw [show atK n k l 0 = [] from rfl, List.append_nil]
        exact HT.out
      go_wp2_with fail
      go_loopw [3, 5] (fun vo ix wr => ∃ j : Nat, j ≤ l.length ∧ ix = .int .i64 j ∧ One Du.enc 2 130 w0.heap.size w0 wr vo (Wh.sorted n l k ++ atK n k l j)) (fun _ ix _ => l.length - (intOf ix).toNat)
      case atStart => exact ⟨0, Nat.zero_le _, rfl, HT1.out⟩
      case round =>
        clear HT HT1 d0 d1
        obtain ⟨j, hj, rfl, ht⟩ := hrel
        have HT := hid ht
        have hsx := ht.bel.size
        have hbx := HX0.out.later ht.bel
        have d1 : wr.cell? ⟨W.heap.size, 1, none⟩ = some (.slice a l.length cap) := hbx.cell 1
        have d0 : wr.cell? ⟨W.heap.size, 0, none⟩ = some (.int .i64 n) := hbx.cell 0
        clear ht hbx
        by_cases hlt2 : j < l.length
        · obtain ⟨b, off, rfl, hpb, hc⟩ := HC.out.resolve_left (by intro e; rw [e] at hlt2; simp at hlt2)
          have hbW : b < W.heap.size := HP.out b hpb
          obtain ⟨y0, y1⟩ := Du.cells (fun q u hu => ((HT.out.bel.cell (p := ⟨b, off + j * 2 + q, none⟩) (by show b < _; omega)).trans (HB0.out.cell hbW)).trans (hc j hlt2 q u hu))
          have hhl := atK_len n k l j
          have hb63 : (Wh.sorted n l k ++ atK n k l j).length + 1 ≤ 1633 := by rw [List.length_append]; omega
          have HKH := hid (fun h => atK_hit (n := n) (k := k) hlt2 h)
          have HKM := hid (fun h => atK_miss (n := n) (k := k) hlt2 h)
          clear hc hhl
          generalize hy : l[j] = y at y0 y1 HKH HKM
          clear hy
          obtain ⟨yid, yat⟩ := y
          simp only at y0 y1
          by_cases hz : yat = (n : Int) + ((k : Int) + 1)
          · subst hz
            have HK := hid (HKH.out rfl)
            clear HKH HKM
            go_wp2_with (at_builtin; refine wpList_push (w0 := wr) (T := 130) (news := Du.enc ⟨yid, (n : Int) + ((k : Int) + 1)⟩) elemD rfl _ _ rfl w0.heap.size _ _ _ rfl HT.out.d rfl (by first | rfl | simp [Act.eval]) rfl (by intro u hu; exact Du.one [⟨yid, (n : Int) + ((k : Int) + 1)⟩] u (by simpa using hu)) ?_ ?_ ?_ ?_)
            · unfold maxLen; omega
            · omega
            · omega
            intro v1 w1 hown1 hb1
            have HN : Hid (One Du.enc 2 130 w0.heap.size w0 w1 v1 (Wh.sorted n l k ++ atK n k l (j + 1))) := by
              show One _ _ _ _ _ _ _ _
              rw [HK.out, ← List.append_assoc]
              exact HT.out.push hb1 (by simpa [Nat.add_assoc] using hown1)
            clear hown1 hb1
            go_wp2_with fail
            go_roundw
            case rel => exact ⟨j + 1, by omega, by go_num, HN.out⟩
            case measure => simp [intOf]; omega
          · have HK := hid (HKM.out hz)
            have hz2 : (yat == (n : Int) + ((k : Int) + 1)) = false := by simpa using hz
            have hx : Hid (One Du.enc 2 130 w0.heap.size w0 wr u3 (Wh.sorted n l k ++ atK n k l (j + 1))) := by
              show One _ _ _ _ _ _ _ _
              rw [HK.out]
              exact HT.out
            clear HKH HKM hz
            go_wp2_with fail
            go_roundw
            case rel => exact ⟨j + 1, by omega, by go_num, hx.out⟩
            case measure => simp [intOf]; omega
        · obtain rfl : j = l.length := by omega
          have HN : Hid (One Du.enc 2 130 w0.heap.size w0 wr u3 (Wh.sorted n l (k + 1))) := by
            have h0 : atK n k l l.length = l.filter (fun d => decide (d.at_ = (n : Int) + ((k : Int) + 1))) := by
              unfold atK
              rw [List.take_length]
            have := HT.out
            rw [h0] at this
            exact this
          go_wp2_with fail
          go_roundw
          case rel => exact ⟨k + 1, by omega, by go_num, HN.out⟩
          case measure => simp [intOf]; omega
    · obtain rfl : k = 50 := by omega
      obtain ⟨a5, cap5, rfl⟩ := owns_form HT.out.d
      go_wp2_with fail
      go_ret
      exact ⟨_, _, rfl, HB0.out.trans (HT.out.bel.mono (by omega)), (RowsOf.of_owns Du.enc_length HT.out.d).imp (fun b hb => ⟨by omega, hb.2⟩)⟩
end C22
end Go.Proofs.Ythmopkaecbebpaa
