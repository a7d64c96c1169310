/- Walks of layer 22 (wheel): the law that what was set comes just so many steps later; no condition. -/
import Derived.Test.YthmopkaecbebpaaH22
import Derived.Test.YthmopkaecbebpaaA22
namespace Go.Peri
theorem and1023 (x : Int) : 0 ≤ bits .and .i64 x 1023 := by
  unfold bits
  show 0 ≤ IntKind.i64.wrap (((BitVec.ofInt 64 x &&& BitVec.ofInt 64 1023).toNat : Nat) : Int)
  rw [BitVec.toNat_and]
  have h : (BitVec.ofInt 64 x).toNat &&& (BitVec.ofInt 64 1023).toNat ≤ 1023 := Nat.le_trans Nat.and_le_right (by decide)
  rw [IntWalk.i64_in _ (by omega)]
  omega
end Go.Peri
namespace Go.Proofs.Ythmopkaecbebpaa
open Go.RowKit Go.Peri
namespace C22
/-- Of what was set aside: due just so many steps later. -/
theorem mark_step {n0 k t : Nat} {L : List Du} (hk : 1 ≤ k) (hm : Wh.mark L = if k ≤ t then [⟨-1, (n0 : Int) + t⟩] else []) :
    (Wh.due (n0 + (k - 1)) L).count (-1) = (if k = t then 1 else 0) ∧ Wh.mark (Wh.rest (n0 + (k - 1)) L) = if k + 1 ≤ t then [⟨-1, (n0 : Int) + t⟩] else [] := by
  rw [Wh.mark_due, Wh.mark_rest, hm]
  have e : ((n0 + (k - 1) : Nat) : Int) + 1 = (n0 : Int) + k := by omega
  rw [e]
  by_cases h1 : k ≤ t
  · by_cases h2 : k = t
    · have h3 : ¬ k + 1 ≤ t := by omega
      simp [h2]
    · have h3 : k + 1 ≤ t := by omega
      have h4 : ¬ (n0 : Int) + t ≤ (n0 : Int) + k := by omega
      simp only [h1, h2, h3, if_true, if_false, List.filter_cons, h4, decide_false, Bool.false_eq_true, List.filter_nil, List.length_nil, Bool.not_false, and_self]
  · have h2 : ¬ k = t := by omega
    have h3 : ¬ k + 1 ≤ t := by omega
    simp [h1, h2, h3]
theorem count_take {d : List Int} {i : Nat} (hi : i < d.length) : (d.take (i + 1)).count (-1) = (d.take i).count (-1) + (if d[i] = -1 then 1 else 0) := by
  rw [List.take_succ_eq_append_getElem hi, List.count_append, List.count_singleton]
  simp [beq_iff_eq]
set_option maxRecDepth 100000 in
set_option maxHeartbeats 2000000 in
theorem exact_good (v : Value) (l : List Wm) (t s : Nat) (W : World) (h : RowsOf (· < W.heap.size) Wm.enc 2 W v l) (hl : l.length ≤ 200) (ht1 : 1 ≤ t) (ht2 : t ≤ 50) (hs1 : s ≤ 120) :
    Calls Try.prog 4 #[v, .int .i64 t, .int .i64 s] W fun e w' => e = .returned (.bool true) ∧ Below W.heap.size W w' := by
  obtain ⟨a, cap, rfl, hlc, hcm, _, hcell⟩ := h
  have HC := hid hcell
  have g1 : ¬ (200 : Int) < (l.length : Int) := by omega
  have g2 : ¬ (t : Int) < 1 := by omega
  have g3 : ¬ (50 : Int) < (t : Int) := by omega
  have g4 : ¬ (s : Int) < 0 := by omega
  have g5 : ¬ (120 : Int) < (s : Int) := by omega
  clear hcell hcm
  go_enter Try.func4, Try.ntmps4
  go_wp2_with fail
  refine (own_new W).mono ?_
  rintro e w1 ⟨rfl, H1⟩
  go_wp2_with fail
  go_loopw [8] (fun ix wr => ∃ (k n : Nat) (L : List Du), k ≤ l.length ∧ ix = .int .i64 k ∧ n ≤ k ∧ (∀ d ∈ L, d.id ≠ -1) ∧ Own W wr n L) (fun ix _ => l.length - (intOf ix).toNat)
  case atStart => exact ⟨0, 0, [], Nat.zero_le _, rfl, Nat.le_refl _, by simp, H1.out⟩
  case round =>
    obtain ⟨k, n, L, hk, rfl, hn, hids, ho⟩ := hrel
    have HO := hid ho
    have HI := hid hids
    clear ho H1 hids
    by_cases hlt : k < l.length
    · obtain ⟨b, off, rfl, hpb, hc⟩ := HC.out.resolve_left (by intro e; rw [e] at hlt; simp at hlt)
      obtain ⟨y0, y1⟩ := Wm.cells (fun j u hu => (HO.out.bel.cell (p := ⟨b, off + k * 2 + j, none⟩) hpb).trans (hc k hlt j u hu))
      clear hc
      generalize l[k] = y at y0 y1
      obtain ⟨id, tk⟩ := y
      simp only at y0 y1
      by_cases hz : tk = 0
      · subst hz
        go_wp2_with fail
        refine (own_step _ _ _ HO.out (by omega) rfl rfl).mono ?_
        rintro e w2 ⟨a2, cap2, rfl, H2, _⟩
        go_wp2_with fail
        go_roundw
        case rel => exact ⟨k + 1, n + 1, _, by omega, by go_num, by omega, Wh.ids_rest HI.out, H2.out⟩
        case measure => simp [intOf]; omega
      · have hz2 : (tk == 0) = false := by simpa using hz
        go_wp2_with fail
        refine wp_region_still_tail 12 (by kernel_rfl) (by kernel_rfl) ?_
        simp only [List.take_succ_cons, List.take_zero, List.drop_succ_cons, List.drop_zero]
        repeat still_step
        refine wpStill_nil ?_
        change wpList _ _ _ _ _ wr.drew
        go_wp2_with fail
        refine (own_set _ tk _ _ wr.drew (HO.out.later (Below.refl _ _).drew) (by omega) rfl rfl).mono ?_
        rintro e w2 ⟨rfl, H2⟩
        go_wp2_with fail
        go_roundw
        case rel => exact ⟨k + 1, n, _, by omega, by go_num, by omega, Wh.ids_set HI.out (by have := and1023 id; omega), H2.out⟩
        case measure => simp [intOf]; omega
    · obtain rfl : k = l.length := by omega
      have hL : L.length ≤ 32 := by obtain ⟨F, hF⟩ := HO.out.is; exact hF.inv.len
      have q1 : ¬ (32 : Int) < (L.length : Int) := by omega
      go_wp2_with fail
      refine (own_len _ HO.out).mono ?_
      rintro e w' ⟨rfl, rfl⟩
      go_wp2_with fail
      by_cases hf : L.length = 32
      · have he : Wh.setE L (t : Int) = 8 := by unfold Wh.setE; rw [if_neg (by omega), if_pos (by omega)]
        refine (own_set (-1) t 8 _ wr HO.out (by omega) he rfl).mono ?_
        rintro e w2 ⟨rfl, H2⟩
        have hll : (Wh.setL n L (-1) (t : Int)).length = 32 := by unfold Wh.setL; rw [if_neg (by rw [he]; decide)]; exact hf
        generalize Wh.setL n L (-1) (t : Int) = L2 at H2 hll
        have hli : ((L2.length : Int) == 32) = true := by rw [hll]; rfl
        clear HO hf hL q1 he
        go_wp2_with (first
          | (go_at_call 24; refine (own_len _ H2.out).mono ?_; rintro e w' ⟨rfl, rfl⟩)
          | (go_at_call 17; refine (known_any _).mono ?_; rintro e w3 ⟨rfl, hb3⟩))
        go_ret
        exact ⟨rfl, H2.out.bel.trans (hb3.mono H2.out.bel.size)⟩
      · have he : Wh.setE L (t : Int) = 0 := by unfold Wh.setE; rw [if_neg (by omega), if_neg (by omega)]
        have hmk := Wh.mark_set (n := n) HI.out he
        refine (own_set (-1) t 0 _ wr HO.out (by omega) he rfl).mono ?_
        rintro e w2 ⟨rfl, H2⟩
        generalize Wh.setL n L (-1) (t : Int) = L2 at H2 hmk
        have HM := hid hmk
        clear HO hf hL q1 he hmk HI
        go_wp2_with fail
        go_loopw [10] (fun ix wx => ∃ (k : Nat) (L : List Du), 1 ≤ k ∧ k ≤ s + 1 ∧ ix = .int .i64 k ∧ (Wh.mark L = if k ≤ t then [⟨-1, (n : Int) + t⟩] else []) ∧ Own W wx (n + (k - 1)) L) (fun ix _ => s + 1 - (intOf ix).toNat)
        case atStart => exact ⟨1, L2, Nat.le_refl _, by omega, rfl, by rw [if_pos ht1]; exact HM.out, H2.out⟩
        case round =>
          clear H2 HM
          obtain ⟨k, L, hk1, hk, rfl, hm, ho⟩ := hrel
          have HO := hid ho
          have HS := hid (mark_step hk1 hm)
          clear ho hm
          by_cases hlt : k ≤ s
          · obtain ⟨d, hd⟩ : ∃ d, d = Wh.due (n + (k - 1)) L := ⟨_, rfl⟩
            rw [← hd] at HS
            have hdl : d.length ≤ 32 := by obtain ⟨F, hF⟩ := HO.out.is; have := hF.inv.len; have := Wh.rest_len (n + (k - 1)) L; rw [← hd] at this; omega
            have HD := hid hd.symm
            clear hd
            go_wp2_with fail
            refine (own_step d _ _ HO.out (by omega) HD.out rfl).mono ?_
            rintro e w3 ⟨a3, cap3, rfl, H3, HB3⟩
            obtain ⟨_, _, hsl, hlc3, hcm3, _, hcell3⟩ := HB3.out.rows
            cases hsl
            have HC3 := hid hcell3
            clear hcell3 HB3 HO HD
            go_wp2_with fail
            go_loopw [11, 13] (fun x11 x13 wy => ∃ i : Nat, i ≤ d.length ∧ x13 = .int .i64 i ∧ x11 = .int .i64 (((d.take i).count (-1) : Nat) : Int) ∧ wy = w3) (fun _ x13 _ => d.length - (intOf x13).toNat)
            case atStart => exact ⟨0, Nat.zero_le _, rfl, rfl, rfl⟩
            case round =>
              obtain ⟨i, hi, rfl, rfl, rfl⟩ := hrel
              by_cases hlt2 : i < d.length
              · obtain ⟨b3, off3, rfl, hpb3, hc3⟩ := HC3.out.resolve_left (by intro e; rw [e] at hlt2; simp at hlt2)
                have y3 := ie_cell hlt2 hc3
                have hct := count_take hlt2
                have hcl : (d.take i).count (-1) ≤ i := Nat.le_trans List.count_le_length (by rw [List.length_take]; omega)
                have HCT := hid hct
                clear hc3 hct
                generalize (d.take i).count (-1) = c at HCT hcl
                by_cases hx : d[i] = -1
                · have HX := hid hx
                  rw [hx] at y3
                  clear hx
                  go_wp2_with fail
                  go_roundw
                  case rel => exact ⟨i + 1, by omega, by go_num, by rw [HCT.out, if_pos HX.out]; go_num, by first | rfl | trivial⟩
                  case measure => simp [intOf]; omega
                · have HX := hid hx
                  have hx2 : (d[i] == -1) = false := by simpa using hx
                  clear hx
                  go_wp2_with fail
                  go_roundw
                  case rel => exact ⟨i + 1, by omega, by go_num, by rw [HCT.out, if_neg HX.out]; go_num, by first | rfl | trivial⟩
                  case measure => simp [intOf]; omega
              · obtain rfl : i = d.length := by omega
                rw [List.take_length, HS.out.1]
                have HS2 := hid HS.out.2
                clear HS
                have hN : Hid (n + (k - 1) + 1 = n + (k + 1 - 1)) := by show _ = _; omega
                by_cases hkt : k = t
                · subst hkt
                  simp only [if_true]
                  go_wp2_with fail
                  go_roundw
                  case rel => exact ⟨k + 1, _, by omega, by omega, by go_num, HS2.out, by rw [← hN.out]; exact H3.out⟩
                  case measure => simp [intOf]; omega
                · have hk2 : ((k : Int) == (t : Int)) = false := by rw [beq_eq_false_iff_ne]; omega
                  simp only [if_neg hkt]
                  have HK := hid hkt
                  clear hkt
                  go_wp2_with fail
                  go_roundw
                  case rel => exact ⟨k + 1, _, by omega, by omega, by go_num, HS2.out, by rw [← hN.out]; exact H3.out⟩
                  case measure => simp [intOf]; omega
          · go_wp2_with fail
            refine (known_any _).mono ?_
            rintro e w3 ⟨rfl, hb3⟩
            go_wp2_with fail
            go_ret
            exact ⟨rfl, HO.out.bel.trans (hb3.mono HO.out.bel.size)⟩
theorem exact_bad (v : Value) (l : List Wm) (t s : Int) (W : World) (h : RowsOf (· < W.heap.size) Wm.enc 2 W v l) (hb : 200 < l.length ∨ (¬ 200 < l.length ∧ t < 1) ∨ (¬ 200 < l.length ∧ ¬ t < 1 ∧ 50 < t) ∨ (¬ 200 < l.length ∧ ¬ t < 1 ∧ ¬ 50 < t ∧ s < 0) ∨ (¬ 200 < l.length ∧ ¬ t < 1 ∧ ¬ 50 < t ∧ ¬ s < 0 ∧ 120 < s)) :
    Calls Try.prog 4 #[v, .int .i64 t, .int .i64 s] W fun e w' => e = .returned (.bool true) ∧ Below W.heap.size W w' := by
  obtain ⟨a, cap, rfl, _⟩ := h
  rcases hb with h1 | ⟨h1, h2⟩ | ⟨h1, h2, h3⟩ | ⟨h1, h2, h3, h4⟩ | ⟨h1, h2, h3, h4, h5⟩
  all_goals
    first
      | have g1 : (200 : Int) < (l.length : Int) := by omega
      | have g1 : ¬ (200 : Int) < (l.length : Int) := by omega
    go_enter Try.func4, Try.ntmps4
    go_wp2_with fail
    refine (known_any _).mono ?_
    rintro e w3 ⟨rfl, hb3⟩
    go_wp2_with fail
    go_ret
    exact ⟨rfl, hb3⟩
theorem exact_walk (v : Value) (l : List Wm) (t s : Int) (W : World) (h : RowsOf (· < W.heap.size) Wm.enc 2 W v l) :
    Calls Try.prog 4 #[v, .int .i64 t, .int .i64 s] W fun e w' => e = .returned (.bool true) ∧ Below W.heap.size W w' := by
  by_cases hg : l.length ≤ 200 ∧ 1 ≤ t ∧ t ≤ 50 ∧ 0 ≤ s ∧ s ≤ 120
  · obtain ⟨h1, h2, h3, h4, h5⟩ := hg
    obtain ⟨tn, rfl⟩ := Int.eq_ofNat_of_zero_le (show 0 ≤ t by omega)
    obtain ⟨sn, rfl⟩ := Int.eq_ofNat_of_zero_le h4
    exact exact_good v l tn sn W h h1 (by omega) (by omega) (by omega)
  · exact exact_bad v l t s W h (by omega)
end C22
end Go.Proofs.Ythmopkaecbebpaa
