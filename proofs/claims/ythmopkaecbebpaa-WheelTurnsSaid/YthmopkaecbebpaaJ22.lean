/- Walks of layer 22 (wheel): the law that the same moves come to the same, wherever a wheel stands; no condition. -/
import Derived.Test.YthmopkaecbebpaaI22
import Derived.Deep.RegionHeld3
namespace Go.Proofs.Ythmopkaecbebpaa
open Go.RowKit Go.Peri
namespace C22
/-- Two wheels, each in blocks of its own. -/
structure Both (W w : World) (ga gb na nb : Nat) (la lb : List Du) : Prop where
  bel : Below W.heap.size W w
  is : ∃ F G, WhIs w ga F na la ∧ WhIs w gb G nb lb ∧ Disj F G
  ga : W.heap.size ≤ ga
  gb : W.heap.size ≤ gb
theorem Both.swap {W w : World} {ga gb na nb : Nat} {la lb : List Du} (h : Both W w ga gb na nb la lb) : Both W w gb ga nb na lb la := by
  obtain ⟨h1, ⟨F, G, h2, h3, h4⟩, h5, h6⟩ := h
  exact ⟨h1, ⟨G, F, h3, h2, h4.symm⟩, h6, h5⟩
theorem Both.later {W w w' : World} {ga gb na nb : Nat} {la lb : List Du} (h : Both W w ga gb na nb la lb) (hb : Below w.heap.size w w') : Both W w' ga gb na nb la lb := by
  obtain ⟨h1, ⟨F, G, h2, h3, h4⟩, h5, h6⟩ := h
  exact ⟨h1.trans (hb.mono h1.size), ⟨F, G, h2.later hb, h3.later hb, h4⟩, h5, h6⟩
theorem Both.turn {W w w' : World} {ga gb na nb na' : Nat} {la lb la' : List Du} {F F' G : List Nat} (h1 : Below W.heap.size W w) (h5 : W.heap.size ≤ ga) (h6 : W.heap.size ≤ gb)
    (hF : WhIs w ga F na la) (hG : WhIs w gb G nb lb) (hd : Disj F G) (ho : Only F w w') (hm : Moves w.heap.size F F') (hF' : WhIs w' ga F' na' la') : Both W w' ga gb na' nb la' lb :=
  ⟨h1.trans (ho.below h1.size (fun k hk => Nat.le_trans h5 (hF.bd k hk).1)), ⟨F', G, hF', hG.only ho hd.symm, hd.move (fun k hk => (hG.bd k hk).2) hm⟩, h5, h6⟩
theorem both_new (W : World) : Calls Try.prog 18 #[] W fun e w' => e = .returned (.pointer (some ⟨W.heap.size, 0, none⟩)) ∧ w'.heap.size = W.heap.size + 1 ∧ Hid (Own W w' 0 []) := by
  refine (new_any W).mono ?_
  rintro e w' ⟨rfl, hb, hs, h⟩
  exact ⟨rfl, hs, hb, _, h.out⟩
theorem both_new2 {W : World} (w : World) (h : Own W w 0 []) : Calls Try.prog 18 #[] w fun e w' => e = .returned (.pointer (some ⟨w.heap.size, 0, none⟩)) ∧ Hid (Both W w' W.heap.size w.heap.size 0 0 [] []) := by
  obtain ⟨hb, F, hF⟩ := h
  refine (new_any w).mono ?_
  rintro e w' ⟨rfl, hb2, hs, h2⟩
  exact ⟨rfl, hb.trans (hb2.mono hb.size), ⟨F, _, hF.later hb2, h2.out, fun k hk hg => by
    have := (hF.bd k hk).2
    simp at hg
    omega⟩, Nat.le_refl _, hb.size⟩
theorem both_set {W : World} {ga gb na nb : Nat} {la lb : List Du} (id t e : Int) (la' : List Du) (w : World) (h : Both W w ga gb na nb la lb) (hn : na ≤ 1000000) (he : Wh.setE la t = e) (hl : Wh.setL na la id t = la') :
    Calls Try.prog 23 #[.pointer (some ⟨ga, 0, none⟩), .int .i64 id, .int .i64 t] w fun x w' => x = .returned (.int .i64 e) ∧ Hid (Both W w' ga gb na nb la' lb) := by
  obtain ⟨h1, ⟨F, G, hF, hG, hd⟩, h5, h6⟩ := h
  refine (set_v ga na F la la' id t e w hF hn he hl).mono ?_
  rintro x w' ⟨rfl, ho, F', hm, h'⟩
  exact ⟨rfl, Both.turn h1 h5 h6 hF hG hd ho hm.out h'.out⟩
theorem both_set2 {W : World} {ga gb na nb : Nat} {la lb : List Du} (id t e : Int) (lb' : List Du) (w : World) (h : Both W w ga gb na nb la lb) (hn : nb ≤ 1000000) (he : Wh.setE lb t = e) (hl : Wh.setL nb lb id t = lb') :
    Calls Try.prog 23 #[.pointer (some ⟨gb, 0, none⟩), .int .i64 id, .int .i64 t] w fun x w' => x = .returned (.int .i64 e) ∧ Hid (Both W w' ga gb na nb la lb') := by
  refine (both_set id t e lb' w h.swap hn he hl).mono ?_
  rintro x w' ⟨rfl, h'⟩
  exact ⟨rfl, h'.out.swap⟩
/-- Two wheels, and a list of numbers beside them. -/
def Beside2 (W w : World) (ga gb na nb : Nat) (la lb : List Du) (v : Value) (d : List Int) : Prop :=
  Below W.heap.size W w ∧ W.heap.size ≤ ga ∧ W.heap.size ≤ gb ∧ ∃ F G, WhIs w ga F na la ∧ WhIs w gb G nb lb ∧ Disj F G ∧ RowsOf (fun b => b < w.heap.size ∧ b ∉ F ∧ b ∉ G) ie 1 w v d
theorem Beside2.both {W w : World} {ga gb na nb : Nat} {la lb : List Du} {v : Value} {d : List Int} (h : Beside2 W w ga gb na nb la lb v d) : Both W w ga gb na nb la lb := by
  obtain ⟨h1, h5, h6, F, G, hF, hG, hd, _⟩ := h
  exact ⟨h1, ⟨F, G, hF, hG, hd⟩, h5, h6⟩
theorem both_step {W : World} {ga gb na nb : Nat} {la lb : List Du} (d : List Int) (la' : List Du) (w : World) (h : Both W w ga gb na nb la lb) (hn : na ≤ 1000000) (hd : Wh.due na la = d) (hl : Wh.rest na la = la') :
    Calls Try.prog 21 #[.pointer (some ⟨ga, 0, none⟩)] w fun e w' => ∃ a cap, e = .returned (.slice a d.length cap) ∧ Hid (Beside2 W w' ga gb (na + 1) nb la' lb (.slice a d.length cap) d) := by
  obtain ⟨h1, ⟨F, G, hF, hG, hdj⟩, h5, h6⟩ := h
  refine (step_v ga na F la la' d w hF hn hd hl).mono ?_
  rintro x w' ⟨a, cap, rfl, ho, F', hm, h', hr⟩
  refine ⟨a, cap, rfl, h1.trans (ho.below h1.size (fun k hk => Nat.le_trans h5 (hF.bd k hk).1)), h5, h6, F', G, h'.out, hG.only ho hdj.symm, hdj.move (fun k hk => (hG.bd k hk).2) hm.out, hr.out.imp (fun b hb => ⟨hb.2.1, hb.2.2, fun hg => ?_⟩)⟩
  have := (hG.bd b hg).2
  omega
theorem both_step2 {W : World} {ga gb na nb : Nat} {la lb : List Du} (d : List Int) (lb' : List Du) (v : Value) (d0 : List Int) (w : World) (h : Beside2 W w ga gb na nb la lb v d0) (hn : nb ≤ 1000000) (hd : Wh.due nb lb = d) (hl : Wh.rest nb lb = lb') :
    Calls Try.prog 21 #[.pointer (some ⟨gb, 0, none⟩)] w fun e w' => ∃ a cap, e = .returned (.slice a d.length cap) ∧ Hid (Both W w' ga gb na (nb + 1) la lb') ∧ Hid (RowsOf (fun b => b < w'.heap.size) ie 1 w' v d0) ∧ Hid (RowsOf (fun b => b < w'.heap.size) ie 1 w' (.slice a d.length cap) d) := by
  obtain ⟨h1, h5, h6, F, G, hF, hG, hdj, hv⟩ := h
  refine (step_v gb nb G lb lb' d w hG hn hd hl).mono ?_
  rintro x w' ⟨a, cap, rfl, ho, G', hm, h', hr⟩
  exact ⟨a, cap, rfl, (Both.turn h1 h6 h5 hG hF hdj.symm ho hm.out h'.out).swap, (hv.only ho (fun b hb => ⟨hb.1, hb.2.2⟩)).imp (fun b hb => Nat.lt_of_lt_of_le hb.1 ho.size), hr.out.imp (fun b hb => hb.2.1)⟩
theorem both_len {W : World} {ga gb na nb : Nat} {la lb : List Du} (w : World) (h : Both W w ga gb na nb la lb) : Calls Try.prog 24 #[.pointer (some ⟨ga, 0, none⟩)] w fun e w' => e = .returned (.int .i64 la.length) ∧ w = w' := by
  obtain ⟨h1, ⟨F, G, hF, hG, hd⟩, h5, h6⟩ := h
  exact len_any _ na F la w hF
theorem both_now {W : World} {ga gb na nb : Nat} {la lb : List Du} (w : World) (h : Both W w ga gb na nb la lb) : Calls Try.prog 25 #[.pointer (some ⟨ga, 0, none⟩)] w fun e w' => e = .returned (.int .i64 na) ∧ w = w' := by
  obtain ⟨h1, ⟨F, G, hF, hG, hd⟩, h5, h6⟩ := h
  exact now_any _ na F la w hF
set_option maxRecDepth 100000 in
set_option maxHeartbeats 2000000 in
theorem turns_good (v : Value) (l : List Wm) (s : Nat) (W : World) (h : RowsOf (· < W.heap.size) Wm.enc 2 W v l) (hl : l.length ≤ 200) (hs : s ≤ 200) :
    Calls Try.prog 5 #[.int .i64 s, v] W fun e w' => e = .returned (.bool true) ∧ Below W.heap.size W w' := by
  obtain ⟨a, cap, rfl, hlc, hcm, _, hcell⟩ := h
  have HC := hid hcell
  have g1 : ¬ (200 : Int) < (l.length : Int) := by omega
  have g2 : ¬ (s : Int) < 0 := by omega
  have g3 : ¬ (200 : Int) < (s : Int) := by omega
  clear hcell hcm
  go_enter Try.func5, Try.ntmps5
  go_wp2_with fail
  refine (both_new W).mono ?_
  rintro e w1 ⟨rfl, hs1, H1⟩
  go_wp2_with fail
  refine (both_new2 w1 H1.out).mono ?_
  rintro e w2 ⟨rfl, H2⟩
  obtain ⟨gb, hgb⟩ : ∃ gb, gb = w1.heap.size := ⟨_, rfl⟩
  rw [← hgb] at H2
  rw [← hgb]
  clear H1 hs1 hgb
  go_wp2_with fail
  go_loopw [7] (fun ix wr => ∃ k : Nat, k ≤ s ∧ ix = .int .i64 k ∧ Both W wr W.heap.size gb k 0 [] []) (fun ix _ => s - (intOf ix).toNat)
  case atStart => exact ⟨0, Nat.zero_le _, rfl, H2.out⟩
  case round =>
    clear H2
    obtain ⟨k, hk, rfl, ho⟩ := hrel
    have HO := hid ho
    clear ho
    by_cases hlt : k < s
    · go_wp2_with fail
      refine (both_step [] [] wr HO.out (by omega) rfl rfl).mono ?_
      rintro e w3 ⟨a3, cap3, rfl, H3⟩
      go_wp2_with fail
      go_roundw
      case rel => exact ⟨k + 1, by omega, by go_num, H3.out.both⟩
      case measure => simp [intOf]; omega
    · obtain rfl : k = s := by omega
      go_wp2_with fail
      go_loopw [8] (fun ix wx => ∃ (i n : Nat) (L : List Du), i ≤ l.length ∧ n ≤ i ∧ ix = .int .i64 i ∧ Both W wx W.heap.size gb (n + k) n (Wh.later k L) L) (fun ix _ => l.length - (intOf ix).toNat)
      case atStart => exact ⟨0, 0, [], Nat.zero_le _, Nat.le_refl _, rfl, by simpa [Wh.later] using HO.out⟩
      case round =>
        clear HO
        obtain ⟨i, n, L, hi, hn, rfl, ho⟩ := hrel
        have HO := hid ho
        clear ho
        by_cases hlt2 : i < l.length
        · obtain ⟨b, off, rfl, hpb, hc⟩ := HC.out.resolve_left (by intro e; rw [e] at hlt2; simp at hlt2)
          obtain ⟨y0, y1⟩ := Wm.cells (fun j u hu => (HO.out.bel.cell (p := ⟨b, off + i * 2 + j, none⟩) hpb).trans (hc i hlt2 j u hu))
          clear hc
          generalize l[i] = y at y0 y1
          obtain ⟨id, tk⟩ := y
          simp only at y0 y1
          have hLL : L.length ≤ 32 := by obtain ⟨F, G, hF, hG, _⟩ := HO.out.is; exact hG.inv.len
          by_cases hz : tk = 0
          · subst hz
            obtain ⟨d, hd⟩ : ∃ d, d = Wh.due n L := ⟨_, rfl⟩
            have hdl : d.length ≤ 32 := by have := Wh.rest_len n L; rw [← hd] at this; omega
            have HD := hid hd.symm
            have HD2 : Hid (Wh.due (n + k) (Wh.later k L) = d) := hid (by rw [Wh.later_due]; exact hd.symm)
            clear hd
            go_wp2_with fail
            refine (both_step d _ _ HO.out (by omega) HD2.out (Wh.later_rest k n L)).mono ?_
            rintro e w3 ⟨a3, cap3, rfl, H3⟩
            go_wp2_with fail
            refine (both_step2 d _ _ d w3 H3.out (by omega) HD.out rfl).mono ?_
            rintro e w4 ⟨a4, cap4, rfl, H4, HA, HB⟩
            go_wp2_with fail
            refine (ints_any _ _ d d true _ HA.out (fun b h => h) HB.out (fun b h => h) (by omega) (by omega) (by simp)).mono ?_
            rintro e w5 ⟨rfl, hb5⟩
            have H5 := hid (H4.out.later hb5)
            have HN : Hid (n + k + 1 = n + 1 + k) := by show _ = _; omega
            clear hb5
            go_wp2_with fail
            go_roundw
            case rel => exact ⟨i + 1, n + 1, _, by omega, by omega, by go_num, by rw [← HN.out]; exact H5.out⟩
            case measure => simp [intOf]; omega
          · have hz2 : (tk == 0) = false := by simpa using hz
            obtain ⟨ev, he⟩ : ∃ ev, Wh.setE L tk = ev := ⟨_, rfl⟩
            have hee : (ev != ev) = false := by simp
            have hbl : b < wr.heap.size := Nat.lt_of_lt_of_le hpb HO.out.bel.size
            have HE := hid he
            have X1 := hid (both_set id tk ev _ wr.drew (HO.out.later (Below.refl _ _).drew) (by omega) ((Wh.later_setE k L tk).trans he) (Wh.later_setL k n L id tk))
            have K : Hid (∀ w', Below W.heap.size W w' → w'.cell? ⟨b, off + i * 2, none⟩ = some (.int .i64 id) ∧ w'.cell? ⟨b, off + i * 2 + 1, none⟩ = some (.int .i64 tk)) := by
              intro w' hw
              have q := HO.out.bel
              exact ⟨(hw.cell (p := ⟨b, off + i * 2, none⟩) hpb).trans ((q.cell (p := ⟨b, off + i * 2, none⟩) hpb).symm.trans y0), (hw.cell (p := ⟨b, off + i * 2 + 1, none⟩) hpb).trans ((q.cell (p := ⟨b, off + i * 2 + 1, none⟩) hpb).symm.trans y1)⟩
            have HBW := hid HO.out.bel
            clear he
            go_wp2_with fail
            go_region_held3 (fun w' => w'.cell? ⟨b, off + i * 2, none⟩ = some (.int .i64 id) ∧ w'.cell? ⟨b, off + i * 2 + 1, none⟩ = some (.int .i64 tk))
              (first
                | exact K.out _ H4.out.bel
                | exact K.out _ H3.out.bel
                | exact K.out _ HBW.out.drew
                | go_keep)
              (first
                | (go_at_call 23; (with_reducible refine X1.out.mono ?_); rintro e3 w3 ⟨rfl, H3⟩)
                | (go_at_call 23; (with_reducible refine (both_set2 id tk ev _ _ H3.out (by omega) HE.out rfl).mono ?_); rintro e4 w4 ⟨rfl, H4⟩))
            go_wp2_with fail
            go_roundw
            case rel => exact ⟨i + 1, n, _, by omega, by omega, by go_num, H4.out⟩
            case measure => simp [intOf]; omega
        · obtain rfl : i = l.length := by omega
          have hLL : L.length ≤ 32 := by obtain ⟨F, G, hF, hG, _⟩ := HO.out.is; exact hG.inv.len
          have q1 : ((L.length : Int) == (L.length : Int)) = true := by simp
          have q2 : (((n : Int) + (k : Int)) == ((n : Int) + (k : Int))) = true := by simp
          have HL1 : Hid (∀ w, Both W w W.heap.size gb (n + k) n (Wh.later k L) L → Calls Try.prog 24 #[.pointer (some ⟨W.heap.size, 0, none⟩)] w fun e w' => e = .returned (.int .i64 L.length) ∧ w = w') := by
            intro w hw
            have := both_len w hw
            rw [Wh.later_len] at this
            exact this
          have HN1 : Hid (∀ w, Both W w W.heap.size gb (n + k) n (Wh.later k L) L → Calls Try.prog 25 #[.pointer (some ⟨W.heap.size, 0, none⟩)] w fun e w' => e = .returned (.int .i64 ((n : Int) + (k : Int))) ∧ w = w') := by
            intro w hw
            have := both_now w hw
            rw [show ((n + k : Nat) : Int) = (n : Int) + (k : Int) by simp] at this
            exact this
          go_wp2_with fail
          refine (HL1.out _ HO.out).mono ?_
          rintro e w' ⟨rfl, rfl⟩
          go_wp2_with fail
          refine (both_len _ HO.out.swap).mono ?_
          rintro e w' ⟨rfl, rfl⟩
          go_wp2_with fail
          refine (HN1.out _ HO.out).mono ?_
          rintro e w' ⟨rfl, rfl⟩
          go_wp2_with fail
          refine (both_now _ HO.out.swap).mono ?_
          rintro e w' ⟨rfl, rfl⟩
          go_wp2_with fail
          refine (known_any _).mono ?_
          rintro e w3 ⟨rfl, hb3⟩
          go_wp2_with fail
          go_ret
          exact ⟨rfl, HO.out.bel.trans (hb3.mono HO.out.bel.size)⟩
theorem turns_bad (v : Value) (l : List Wm) (s : Int) (W : World) (h : RowsOf (· < W.heap.size) Wm.enc 2 W v l) (hb : s < 0 ∨ (¬ s < 0 ∧ 200 < s) ∨ (¬ s < 0 ∧ ¬ 200 < s ∧ 200 < l.length)) :
    Calls Try.prog 5 #[.int .i64 s, v] W fun e w' => e = .returned (.bool true) ∧ Below W.heap.size W w' := by
  obtain ⟨a, cap, rfl, _⟩ := h
  rcases hb with h1 | ⟨h1, h2⟩ | ⟨h1, h2, h3⟩
  all_goals
    try have g1 : (200 : Int) < (l.length : Int) := by omega
    go_enter Try.func5, Try.ntmps5
    go_wp2_with fail
    refine (known_any _).mono ?_
    rintro e w3 ⟨rfl, hb3⟩
    go_wp2_with fail
    go_ret
    exact ⟨rfl, hb3⟩
theorem turns_walk (v : Value) (l : List Wm) (s : Int) (W : World) (h : RowsOf (· < W.heap.size) Wm.enc 2 W v l) :
    Calls Try.prog 5 #[.int .i64 s, v] W fun e w' => e = .returned (.bool true) ∧ Below W.heap.size W w' := by
  by_cases hg : 0 ≤ s ∧ s ≤ 200 ∧ l.length ≤ 200
  · obtain ⟨h1, h2, h3⟩ := hg
    obtain ⟨sn, rfl⟩ := Int.eq_ofNat_of_zero_le h1
    exact turns_good v l sn W h h3 (by omega)
  · exact turns_bad v l s W h (by omega)
end C22
end Go.Proofs.Ythmopkaecbebpaa
