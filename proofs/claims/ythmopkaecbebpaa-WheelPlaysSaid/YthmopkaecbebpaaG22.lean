/- Walks of layer 22 (wheel): a step; no condition. -/
import Derived.Test.YthmopkaecbebpaaF22
namespace Go.Peri
open Go.RowKit
theorem owns_mono {w : World} {base base' : Nat} {e : TypeId} {size : Nat} {v : Value} {n : Nat} {xs : List Value} (h : w.ownsRow base e size v n xs) (hb : base' ≤ base) : w.ownsRow base' e size v n xs := by
  obtain ⟨h1, h2⟩ := h
  refine ⟨h1, h2.imp id ?_⟩
  rintro ⟨k, cp, cur, q1, q2, q3⟩
  exact ⟨k, cp, cur, q1, by omega, q3⟩
theorem RowsOf.of_owns' {α : Type} {enc : α → List Value} {k : Nat} (hk : ∀ x, (enc x).length = k) {w : World} {base : Nat} {e : TypeId} {v : Value} {l : List α} (h : w.ownsRow base e k v l.length (l.flatMap enc)) : RowsOf (fun b => base ≤ b ∧ b < w.heap.size ∧ b ∈ blocks v) enc k w v l := by
  obtain ⟨a, cap, rfl, h2, h3, h4, h5⟩ := RowsOf.of_owns hk h
  refine ⟨a, cap, rfl, h2, h3, h4, h5.imp id ?_⟩
  rintro ⟨b, off, rfl, hb, hc⟩
  exact ⟨b, off, rfl, ⟨hb.1, hb.2, by
    rcases h.2 with ⟨h6, _⟩ | ⟨gg, cp, cur, h6, _⟩
    · cases h6
    · cases h6
      simp [blocks, Value.ownBlock]⟩, hc⟩
end Go.Peri
namespace Go.Proofs.Ythmopkaecbebpaa
open Go.RowKit Go.Peri
namespace C22
/-- What the first k of a slot's list come to. -/
def dueK (R : List Du) (k : Nat) : List Int := ((R.take k).filter (fun d => decide (d.at_ = 0))).map Du.id
def restK (R : List Du) (k : Nat) : List Du := ((R.take k).filter (fun d => !decide (d.at_ = 0))).map (fun d => ⟨d.id, d.at_ - 1⟩)
theorem dueK_hit {R : List Du} {k : Nat} (hk : k < R.length) (h : R[k].at_ = 0) : dueK R (k + 1) = dueK R k ++ [R[k].id] ∧ restK R (k + 1) = restK R k := by
  unfold dueK restK
  rw [List.take_succ_eq_append_getElem hk]
  simp only [List.filter_append, List.map_append, List.filter_cons, h, decide_true, if_true, Bool.not_true, Bool.false_eq_true, if_false, List.filter_nil, List.map_cons, List.map_nil, List.append_nil, and_self]
theorem dueK_miss {R : List Du} {k : Nat} (hk : k < R.length) (h : R[k].at_ ≠ 0) : dueK R (k + 1) = dueK R k ∧ restK R (k + 1) = restK R k ++ [⟨R[k].id, R[k].at_ - 1⟩] := by
  unfold dueK restK
  rw [List.take_succ_eq_append_getElem hk]
  simp only [List.filter_append, List.map_append, List.filter_cons, h, decide_false, if_true, Bool.not_false, Bool.false_eq_true, if_false, List.filter_nil, List.map_cons, List.map_nil, List.append_nil, and_self]
theorem dueK_len (R : List Du) (k : Nat) : (dueK R k).length + (restK R k).length ≤ k := by
  unfold dueK restK
  rw [List.length_map, List.length_map]
  have h1 : ∀ L : List Du, (L.filter (fun d => decide (d.at_ = 0))).length + (L.filter (fun d => !decide (d.at_ = 0))).length = L.length := by
    intro L
    induction L with
    | nil => rfl
    | cons d L ih => by_cases e : d.at_ = 0 <;> simp [e] at ih ⊢ <;> omega
  rw [h1, List.length_take]
  omega
theorem row_bd {n : Nat} {l : List Du} (h : Wh.Inv n l) (i : Nat) : ∀ d ∈ Wh.row n l i, 0 ≤ d.at_ ∧ d.at_ ≤ 3 := by
  intro d hd
  unfold Wh.row at hd
  obtain ⟨e, he, rfl⟩ := List.mem_map.1 hd
  have he := (List.mem_filter.1 he).1
  have h1 := h.lo e he
  have h2 := h.hi e he
  show 0 ≤ (e.at_ - (n : Int) - 1) / 16 ∧ (e.at_ - (n : Int) - 1) / 16 ≤ 3
  omega
set_option maxRecDepth 100000 in
set_option maxHeartbeats 4000000 in
theorem step_any (g n : Nat) (F : List Nat) (l : List Du) (w : World) (h : WhIs w g F n l) (hn : n ≤ 1000000) :
    Calls Try.prog 21 #[.pointer (some ⟨g, 0, none⟩)] w fun e w' => ∃ a cap, e = .returned (.slice a (Wh.due n l).length cap) ∧ Only F w w' ∧ ∃ F', Hid (Moves w.heap.size F F') ∧ Hid (WhIs w' g F' (n + 1) (Wh.rest n l)) ∧ Hid (RowsOf (fun b => w.heap.size ≤ b ∧ b < w'.heap.size ∧ b ∉ F') ie 1 w' (.slice a (Wh.due n l).length cap) (Wh.due n l)) := by
  obtain ⟨vs, rfl, h⟩ := h
  obtain ⟨i, hi⟩ : ∃ i, i = (n + 1) % 16 := ⟨_, rfl⟩
  have hi16 : i < 16 := by omega
  have hiv : i < vs.length := by rw [h.len]; exact hi16
  obtain ⟨a, cap, ev, ci⟩ := h.form i hiv
  have hown := h.own i hiv
  rw [ev] at hown
  have r1 : ((n : Int) + 1) % 16 = (i : Int) := by omega
  have hdue := Wh.due_row h.inv r1
  have hnext := Wh.row_next h.inv r1
  obtain ⟨R, hR⟩ : ∃ R, R = Wh.row n l i := ⟨_, rfl⟩
  have hRb : ∀ d ∈ R, 0 ≤ d.at_ ∧ d.at_ ≤ 3 := by rw [hR]; exact row_bd h.inv i
  have HRB := hid hRb
  have hl32 := h.inv.len
  have hRl : R.length ≤ 32 := by rw [hR]; exact Nat.le_trans (Wh.row_len n l i) h.inv.len
  have hrl := Wh.rest_len n l
  have hdl : (Wh.due n l).length ≤ 32 := by have := h.inv.len; omega
  rw [← hR] at ev ci hown hdue hnext
  have c0 : w.cell? ⟨g, 0, none⟩ = some (.int .i64 n) := h.blk.cell 0
  have c1 : w.cell? ⟨g, 1, none⟩ = some (.int .i64 l.length) := h.blk.cell 1
  have f0 := h.blk.free 0
  have hgl := h.blk.lt
  have HH := hid h
  have HE := hid ev
  have HR1 := hid r1
  have HD := hid (And.intro hdue (And.intro hnext (And.intro hrl hdl)))
  have hO0 : Only [g] w (w.setCell ⟨g, 0, none⟩ (.int .i64 (n + 1))) := (Only.refl _ _).setCell (by simp) _
  have HO0 := hid hO0
  have HRW : Hid (RowsOf (fun b => g + 1 ≤ b ∧ b < w.heap.size) Du.enc 2 (w.setCell ⟨g, 0, none⟩ (.int .i64 (n + 1))) (.slice a R.length cap) R) := (RowsOf.of_owns (e := 132) Du.enc_length hown).only hO0 (fun b hb => ⟨hb.2, by simp; omega⟩)
  have hI16 : (i : Int) < 16 := by omega
  have HRE := hid hR
  have HHI := hid hi
  clear h hown ev r1 hdue hnext hrl hdl hO0 hR hi hRb
  go_enter Try.func21, Try.ntmps21
  go_upto_region 5 with fail
  rw [HR1.out]
  obtain ⟨w0, hw0⟩ : ∃ w0, w0 = w.setCell ⟨g, 0, none⟩ (.int .i64 ((n : Int) + 1)) := ⟨_, rfl⟩
  rw [← hw0] at HRW HO0
  rw [← hw0]
  have hs1 : w0.heap.size ≤ w.heap.size := by rw [hw0]; simp [World.setCell]
  have hs2 : w.heap.size ≤ w0.heap.size := by rw [hw0]; simp [World.setCell]
  have hb0 : Blk w0 g (Value.int .i64 (n + 1) :: Value.int .i64 l.length :: vs).toArray 128 := by rw [hw0]; exact HH.out.blk.set 0 _
  have x2 : w0.cell? ⟨g, 2 + i, none⟩ = some (.slice a R.length cap) := by
    rw [hb0.cell, show 2 + i = i + 1 + 1 by omega]
    simp only [List.getElem?_toArray, List.getElem?_cons_succ]
    rw [List.getElem?_eq_getElem hiv, HE.out]
  have HB0 := hid hb0
  have HT0 : Hid (Two ie 1 3 Du.enc 2 132 w0.heap.size w0 w0 (.slice none 0 0) (.slice none 0 0) (dueK R 0) (restK R 0)) := Two.start w0
  clear hb0 hw0 c0 c1 f0 ci
  obtain ⟨_, _, hsl, hlc, hcm, _, hcell⟩ := HRW.out
  cases hsl
  have HC := hid hcell
  clear hcell
  go_wp2_with fail
  go_loopw [4, 5, 29] (fun vd vr ix wr => ∃ k : Nat, k ≤ R.length ∧ ix = .int .i64 k ∧ Two ie 1 3 Du.enc 2 132 w0.heap.size w0 wr vd vr (dueK R k) (restK R k)) (fun _ _ ix _ => R.length - (intOf ix).toNat)
  case atStart => exact ⟨0, Nat.zero_le _, rfl, HT0.out⟩
  case round =>
    obtain ⟨k, hk, rfl, ht⟩ := hrel
    have HT := hid ht
    have hsr := ht.bel.size
    clear ht HT0
    by_cases hlt : k < R.length
    · obtain ⟨b, off, rfl, hpb, hc⟩ := HC.out.resolve_left (by intro e; rw [e] at hlt; simp at hlt)
      obtain ⟨y0, y1⟩ := Du.cells (fun j u hu => (HT.out.bel.cell (p := ⟨b, off + k * 2 + j, none⟩) (by have := hpb.2; show b < _; omega)).trans (hc k hlt j u hu))
      have hlens := dueK_len R k
      have hbl : b < wr.heap.size := by have := hpb.2; omega
      by_cases hz : R[k].at_ = 0
      · have HK := hid (dueK_hit hlt hz)
        clear hc
        rw [hz] at y1
        generalize R[k].id = yid at y0 HK
        have hx : Hid (Two ie 1 3 Du.enc 2 132 w0.heap.size w0 (wr.alloc (.cells #[.int .i64 yid, .int .i64 0] 132)) u4 u5 (dueK R k) (restK R k)) := HT.out.alloc hsr _
        go_wp2_with (at_builtin; refine wpList_push_at (w0 := wr.alloc (.cells #[.int .i64 yid, .int .i64 0] 132)) (T := 3) (news := ie yid) elemI rfl _ _ rfl w0.heap.size _ _ _ rfl hx.out.d rfl (by simp [Act.eval]) rfl (by intro u hu; exact ie_one [yid] u (by simpa using hu)) ?_ ?_ ?_ ?_)
        · unfold maxLen; omega
        · omega
        · simp; omega
        intro v1 w1 hown1 ho1 hm1
        have HN : Hid (Two ie 1 3 Du.enc 2 132 w0.heap.size w0 w1 v1 u5 (dueK R (k + 1)) (restK R (k + 1))) := by
          show Two _ _ _ _ _ _ _ _ _ _ _ _ _
          rw [HK.out.1, HK.out.2]
          exact hx.out.pushA (by simp; omega) hown1 ho1 (hm1.le (by simp))
        clear hown1 ho1 hm1 hx
        go_wp2_with fail
        go_roundw
        case rel => exact ⟨k + 1, by omega, by go_num, HN.out⟩
        case measure => simp [intOf]; omega
      · have HK := hid (dueK_miss hlt hz)
        have hb := HRB.out _ (List.getElem_mem hlt)
        clear hc
        generalize R[k].id = yid at y0 HK
        generalize R[k].at_ = yat at y1 HK hb hz
        obtain ⟨hb1, hb2⟩ := hb
        have hx : Hid (Two ie 1 3 Du.enc 2 132 w0.heap.size w0 (wr.alloc (.cells #[.int .i64 yid, .int .i64 yat] 132)) u4 u5 (dueK R k) (restK R k)) := HT.out.alloc hsr _
        have hz2 : (yat == 0) = false := by simpa using hz
        go_wp2_with (at_builtin; refine wpList_push_at (w0 := wr.alloc (.cells #[.int .i64 yid, .int .i64 yat] 132)) (T := 132) (news := Du.enc ⟨yid, yat - 1⟩) elemS rfl _ _ rfl w0.heap.size _ _ _ rfl hx.out.r rfl (by simp [Act.eval]) rfl (by intro u hu; exact Du.one [⟨yid, yat - 1⟩] u (by simpa using hu)) ?_ ?_ ?_ ?_)
        · unfold maxLen; omega
        · omega
        · simp; omega
        intro v1 w1 hown1 ho1 hm1
        have HN : Hid (Two ie 1 3 Du.enc 2 132 w0.heap.size w0 w1 u4 v1 (dueK R (k + 1)) (restK R (k + 1))) := by
          show Two _ _ _ _ _ _ _ _ _ _ _ _ _
          rw [HK.out.1, HK.out.2]
          exact hx.out.pushB (by simp; omega) hown1 ho1 (hm1.le (by simp))
        clear hown1 ho1 hm1 hx
        go_wp2_with fail
        go_roundw
        case rel => exact ⟨k + 1, by omega, by go_num, HN.out⟩
        case measure => simp [intOf]; omega
    · obtain rfl : k = R.length := by omega
      have hd : dueK R R.length = Wh.due n l := by rw [HD.out.1]; unfold dueK; rw [List.take_length]
      have hr : restK R R.length = Wh.row (n + 1) (Wh.rest n l) i := by rw [HD.out.2.1]; unfold restK; rw [List.take_length]
      have ht := HT.out
      rw [hd, hr] at ht
      obtain ⟨a4, cap4, rfl⟩ := owns_form ht.d
      obtain ⟨a5, cap5, rfl⟩ := owns_form ht.r
      have HT2 := hid ht
      have hg0 : g < w0.heap.size := by omega
      have hbw := HB0.out.below ht.bel hg0
      have z1 : wr.cell? ⟨g, 1, none⟩ = some (.int .i64 l.length) := hbw.cell 1
      have z2 : wr.cell? ⟨g, 2 + i, none⟩ = some (.slice a R.length cap) := (ht.bel.cell (p := ⟨g, 2 + i, none⟩) hg0).trans x2
      have zf1 := hbw.free 1
      have zf2 := hbw.free (2 + i)
      have HBW := hid hbw
      have hrl := HD.out.2.2.1
      have hdl := HD.out.2.2.2
      clear ht hd hr x2 HT hbw
      go_wp2_with fail
      go_ret
      have hO1 : Only [g] wr _ := (((Only.refl _ wr).setCell (p := ⟨g, 2 + i, none⟩) (by simp) (.slice a5 (Wh.row (n + 1) (Wh.rest n l) i).length cap5)).setCell (p := ⟨g, 1, none⟩) (by simp) (.int .i64 (l.length - (Wh.due n l).length)))
      have hO : Only (g :: blocks vs[i]) w _ := ((HO0.out.mono (by simp)).trans (Only.of_below' HT2.out.bel (Nat.le_refl _))).trans (hO1.mono (by simp))
      have hsz := hO1.size
      obtain ⟨F', hF1, hF2, hF3⟩ : ∃ F', (∀ k, k ∈ F' → k ∈ g :: vs.flatMap blocks ∨ k ∈ blocks (.slice a5 (Wh.row (n + 1) (Wh.rest n l) i).length cap5)) ∧ Moves w.heap.size (g :: vs.flatMap blocks) F' ∧ WhIs _ g F' (n + 1) (Wh.rest n l) := by
        refine HH.out.upd i hiv (.slice a5 (Wh.row (n + 1) (Wh.rest n l) i).length cap5) ?_ (Wh.inv_rest HH.out.inv) (fun j _ hj => Wh.row_stay HH.out.inv (by have := HR1.out; omega)) ?_ hO ?_
        · have hB := (HBW.out.set (2 + i) (.slice a5 (Wh.row (n + 1) (Wh.rest n l) i).length cap5)).set 1 (.int .i64 (l.length - (Wh.due n l).length))
          rw [arr_upd] at hB
          rw [show ((n + 1 : Nat) : Int) = (n : Int) + 1 by simp, show ((Wh.rest n l).length : Int) = (l.length : Int) - ((Wh.due n l).length : Int) by omega]
          exact hB
        · refine owns_mono (owns_keep HT2.out.r hO1 ?_) (by omega)
          intro q hq hg
          have := owns_bd HT2.out.r q hq
          simp at hg
          omega
        · intro q hq
          exact .inr (by have := owns_bd HT2.out.r q hq; omega)
      refine ⟨_, _, rfl, hO.mono (fun q hq => ?_), F', hF2, hF3, ?_⟩
      · rcases List.mem_cons.1 hq with rfl | hq
        · simp
        · exact List.mem_cons_of_mem _ (mem_blocks.2 ⟨i, hiv, hq⟩)
      · have hrows := (RowsOf.of_owns' (e := 3) ie_length (owns_keep HT2.out.d hO1 (by
          intro q hq hg
          have := owns_bd HT2.out.d q hq
          simp at hg
          omega)))
        refine hrows.imp (fun b hb => ⟨by have := hb.1; omega, hb.2.1, fun hb2 => ?_⟩)
        rcases hF1 b hb2 with hb3 | hb3
        · have := (HH.out.ge b hb3).2
          have := hb.1
          omega
        · exact HT2.out.x b hb.2.2 hb3
end C22
end Go.Proofs.Ythmopkaecbebpaa
