/- Walks of layer 28 (net): the law that there are never too many letters, that their numbers rise, and that what is taken was there; no condition. -/
import Derived.Test.YthmopkaecbebpaaH28
import Derived.Test.YthmopkaecbebpaaA28
namespace Go.Proofs.Ythmopkaecbebpaa
open Go.RowKit Go.Peri
namespace C28
theorem numbers_bad (v : Value) (l : List Nm) (W : World) (h : RowsOf (· < W.heap.size) Nm.enc 5 W v l) (hb : 800 < l.length) :
    Calls Try.prog 7 #[v] W fun e w' => e = .returned (.bool true) ∧ Below W.heap.size W w' := by
  obtain ⟨a, cap, rfl, _⟩ := h
  have g1 : (800 : Int) < (l.length : Int) := by omega
  go_enter Try.func7, Try.ntmps7
  go_wp2_with fail
  refine (known_any _).mono ?_
  rintro e w1 ⟨rfl, hb1⟩
  go_wp2_with fail
  go_ret
  exact ⟨rfl, hb1⟩
theorem rise_at {l : List Lt} (h : l.Pairwise (fun x y => x.no < y.no)) {i : Nat} (hi : i + 1 < l.length) : l[i].no < l[i + 1].no :=
  List.pairwise_iff_getElem.1 h i (i + 1) (by omega) hi (by omega)
set_option maxRecDepth 100000 in
set_option maxHeartbeats 4000000 in
theorem numbers_good (v : Value) (l : List Nm) (W : World) (h : RowsOf (· < W.heap.size) Nm.enc 5 W v l) (hw : ∀ m ∈ l, m.Wf) (hl : l.length ≤ 800) :
    Calls Try.prog 7 #[v] W fun e w' => e = .returned (.bool true) ∧ Below W.heap.size W w' := by
  obtain ⟨a, cap, rfl, hlc, hcm, _, hcell⟩ := h
  have HC := hid hcell
  have HWF := hid hw
  have g1 : ¬ (800 : Int) < (l.length : Int) := by omega
  clear hcell hcm hw
  go_enter Try.func7, Try.ntmps7
  go_wp2_with fail
  refine (own_new W).mono ?_
  rintro e w1 ⟨rfl, H1⟩
  go_wp2_with fail
  go_loopw [4] (fun ix wr => ∃ (k : Nat) (s : Nt), k ≤ l.length ∧ ix = .int .i64 k ∧ Own W wr k s) (fun ix _ => l.length - (intOf ix).toNat)
  case atStart => exact ⟨0, Nt.new, Nat.zero_le _, rfl, H1.out⟩
  case round =>
    obtain ⟨k, s, hk, rfl, ho⟩ := hrel
    have HO := hid ho
    clear ho H1
    by_cases hlt : k < l.length
    · obtain ⟨b, off, rfl, hpb, hc⟩ := HC.out.resolve_left (by intro e; rw [e] at hlt; simp at hlt)
      have hcx := hc k hlt
      have hwf := HWF.out _ (List.getElem_mem hlt)
      clear hc
      generalize l[k] = y at hcx hwf
      obtain ⟨kind, fr, tw, bs, kk⟩ := y
      have hbs : bs.size ≤ 140737488351232 := hwf
      have KEEP : Hid (∀ w', Below W.heap.size W w' → w'.cell? ⟨b, off + k * 5, none⟩ = some (.int .i64 kind) ∧ w'.cell? ⟨b, off + k * 5 + 1, none⟩ = some (.int .i64 fr) ∧ w'.cell? ⟨b, off + k * 5 + 2, none⟩ = some (.int .i64 tw) ∧ w'.cell? ⟨b, off + k * 5 + 3, none⟩ = some (.string bs) ∧ w'.cell? ⟨b, off + k * 5 + 4, none⟩ = some (.int .i64 kk)) := fun w' hb => Nm.cells (fun j u hu => (hb.cell (p := ⟨b, off + k * 5 + j, none⟩) hpb).trans (hcx j u hu))
      obtain ⟨y0, y1, y2, y3, y4⟩ := KEEP.out _ HO.out.bel
      have hbl : b < wr.heap.size := Nat.lt_of_lt_of_le hpb HO.out.bel.size
      clear hcx hwf
      by_cases hbig : 300 < bs.size
      · have hb1 : (300 : Int) < (bs.size : Int) := by omega
        go_wp2_with fail
        refine (known_any _).mono ?_
        rintro e w3 ⟨rfl, hb3⟩
        go_wp2_with fail
        go_ret
        exact ⟨rfl, HO.out.bel.trans (hb3.mono HO.out.bel.size)⟩
      have hb1 : ¬ (300 : Int) < (bs.size : Int) := by omega
      go_wp2_with fail
      refine (own_all wr HO.out).mono ?_
      rintro e w2 ⟨a2, cap2, rfl, B2⟩
      have HLEN := hid HO.out.inv.len
      clear HO y0 y1 y2 y3 y4 hbl
      obtain ⟨y0, y1, y2, y3, y4⟩ := KEEP.out _ B2.out.own.bel
      have hbl : b < w2.heap.size := Nat.lt_of_lt_of_le hpb B2.out.own.bel.size
      by_cases hk0 : kind = 0
      · subst hk0
        go_wp2_with fail
        refine wp_region_still_tail 16 (by kernel_rfl) (by kernel_rfl) ?_
        simp only [List.take_succ_cons, List.take_zero, List.drop_succ_cons, List.drop_zero]
        repeat still_step
        refine wpStill_nil ?_
        change wpList _ _ _ _ _ w2.drew
        go_wp2_with fail
        refine (own_send fr tw bs _ _ w2.drew (B2.out.own.later (Below.refl _ _).drew) (by omega) rfl rfl).mono ?_
        rintro e w3 ⟨rfl, H3⟩
        go_wp2_with fail
        go_roundw
        case rel => exact ⟨k + 1, _, by omega, by go_num, H3.out⟩
        case measure => simp [intOf]; omega
      have hk0b : (kind == 0) = false := by simpa using hk0
      clear hk0
      by_cases hk1 : kind = 1
      · subst hk1
        obtain ⟨r, hr⟩ : ∃ r, s.has kk = r := ⟨_, rfl⟩
        have HR := hid hr
        clear hr
        cases r
        · go_wp2_with fail
          refine (own_take kk _ Lt.zero false w2 B2.out.own HR.out rfl (by unfold Nt.takeL; rw [HR.out]; rfl)).mono ?_
          rintro e w3 ⟨rfl, H3⟩
          go_upto_region 16 with fail
          refine wpGen ?_
          intro w4 hw4
          have H4 : Hid (Own W w4 (k + 1) (s.take kk)) := by show Own _ _ _ _; rw [hw4]; exact H3.out.later (by go_grown)
          clear hw4 y0 y1 y2 y3 y4 hbl H3
          refine wp_region_bw (by kernel_rfl) (by kernel_rfl) ?_
          repeat (go_big_quiet_step (fail))
          refine wpQuiet_nil ?_
          rintro w5 ⟨⟨_, hb5⟩, rfl⟩
          have H5 := hid (H4.out.later hb5)
          clear hb5
          go_wp2_with fail
          go_roundw
          case rel => exact ⟨k + 1, _, by omega, by go_num, H5.out⟩
          case measure => simp [intOf]; omega
        · obtain ⟨h0, h1⟩ := (Nt.has_iff s kk).1 HR.out
          obtain ⟨q, rfl⟩ := Int.eq_ofNat_of_zero_le h0
          have hq : q < s.all.length := by omega
          obtain ⟨x, hx⟩ : ∃ x, s.at_ q = x := ⟨_, rfl⟩
          have hx1 : s.takeL q = x := by unfold Nt.takeL; rw [if_pos HR.out]; exact hx
          have hx2 : s.all[q] = x := by rw [← hx]; show _ = s.all.getD _ _; simp [List.getD, hq]
          have HX1 := hid hx1
          have HX2 := hid hx2
          clear hx hx1 hx2 h0
          go_wp2_with fail
          refine (beside_take q _ x true _ _ w2 B2.out HR.out rfl HX1.out).mono ?_
          rintro e w3 ⟨rfl, B3⟩
          have hrow := B3.out.rows
          obtain ⟨_, _, e3, _, hcl, _, hc3⟩ := hrow
          cases e3
          have HC3 := hid hc3
          clear hc3
          obtain ⟨bw, ow, e3, hbw, hc4⟩ := HC3.out.resolve_left (by intro e; rw [e] at hq; simp at hq)
          subst e3
          have hcx := hc4 q hq
          rw [HX2.out] at hcx
          obtain ⟨c0, c1, c2, c3⟩ := Lt.cells hcx
          have hbw3 : bw < w3.heap.size := hbw
          clear hc4 hcx hbw y0 y1 y2 y3 y4 hbl HC3
          go_upto_region 16 with fail
          refine wpGen ?_
          intro w4 hw4
          obtain ⟨gx, hgx⟩ : ∃ g, g = w3.heap.size := ⟨_, rfl⟩
          rw [← hgx]
          have hb4 : Below w3.heap.size w3 w4 := by rw [hw4]; go_grown
          have hX4 : Blk w4 gx #[.int .i64 x.no, .int .i64 x.from_, .int .i64 x.to, .string x.bytes] 62 := by rw [hw4, hgx]; exact Blk.new _ _ _
          have H4 : Hid (Own W w4 (k + 1) (s.take q)) := B3.out.own.later hb4
          have d0 := (hb4.cell (p := ⟨bw, ow + q * 4, none⟩) hbw3).trans c0
          have d1 := (hb4.cell (p := ⟨bw, ow + q * 4 + 1, none⟩) hbw3).trans c1
          have d2 := (hb4.cell (p := ⟨bw, ow + q * 4 + 2, none⟩) hbw3).trans c2
          have d3 := (hb4.cell (p := ⟨bw, ow + q * 4 + 3, none⟩) hbw3).trans c3
          have z0 : w4.cell? ⟨gx, 0, none⟩ = some (.int .i64 x.no) := hX4.cell 0
          have z1 : w4.cell? ⟨gx, 1, none⟩ = some (.int .i64 x.from_) := hX4.cell 1
          have z2 : w4.cell? ⟨gx, 2, none⟩ = some (.int .i64 x.to) := hX4.cell 2
          have z3 : w4.cell? ⟨gx, 3, none⟩ = some (.string x.bytes) := hX4.cell 3
          have hgl := hX4.lt
          have hbw4 : bw < w4.heap.size := by omega
          obtain ⟨_, _, _, _, y4⟩ := KEEP.out _ H4.out.bel
          have hbl : b < w4.heap.size := Nat.lt_of_lt_of_le hpb H4.out.bel.size
          clear hw4 hgx hb4 hX4 c0 c1 c2 c3 B3 hbw3
          have hee := eqLt x x
          rw [decide_eq_true rfl] at hee
          have e1 : decide ((q : Int) < 0) = false := by simp
          have e2 : decide ((s.all.length : Int) ≤ (q : Int)) = false := by simp; omega
          have e3 : (0 : Int) ≤ (q : Int) := by omega
          have e4 : (q : Int) < (s.all.length : Int) := by omega
          have e5 : decide (s.all.length ≤ q) = false := by simp; omega
          refine wp_region_bw (by kernel_rfl) (by kernel_rfl) ?_
          repeat (go_big_quiet_step (fail))
          refine wpQuiet_nil ?_
          rintro w5 ⟨⟨_, hb5⟩, rfl⟩
          have H5 := hid (H4.out.later hb5)
          clear hb5
          go_wp2_with fail
          go_roundw
          case rel => exact ⟨k + 1, _, by omega, by go_num, H5.out⟩
          case measure => simp [intOf]; omega
      have hk1b : (kind == 1) = false := by simpa using hk1
      clear hk1
      by_cases hk2 : kind = 2
      · subst hk2
        go_wp2_with fail
        refine (own_lose kk _ _ w2 B2.out.own rfl rfl).mono ?_
        rintro e w3 ⟨rfl, H3⟩
        go_wp2_with fail
        go_roundw
        case rel => exact ⟨k + 1, _, by omega, by go_num, H3.out⟩
        case measure => simp [intOf]; omega
      have hk2b : (kind == 2) = false := by simpa using hk2
      clear hk2
      go_wp2_with fail
      refine (own_copy kk _ _ w2 B2.out.own (by omega) rfl rfl).mono ?_
      rintro e w3 ⟨rfl, H3⟩
      go_wp2_with fail
      go_roundw
      case rel => exact ⟨k + 1, _, by omega, by go_num, H3.out⟩
      case measure => simp [intOf]; omega
    · obtain rfl : k = l.length := by omega
      have hl1 : s.all.length ≤ 256 := HO.out.inv.len
      have HRI := hid HO.out.inv.rise
      go_wp2_with fail
      refine (own_all wr HO.out).mono ?_
      rintro e w2 ⟨a2, cap2, rfl, B2⟩
      have hrow := B2.out.rows
      obtain ⟨_, _, e3, hlc3, hcl, _, hc3⟩ := hrow
      cases e3
      have HC3 := hid hc3
      clear hc3
      go_wp2_with fail
      go_loopw [9] (fun ix wr => ∃ j : Nat, (j ≤ s.all.length ∨ j = 0) ∧ ix = .int .i64 ((j : Int) + 1) ∧ Below w2.heap.size w2 wr) (fun ix _ => s.all.length + 1 - (intOf ix).toNat)
      case atStart => exact ⟨0, .inr rfl, rfl, Below.refl _ _⟩
      case round =>
        obtain ⟨j, hj, rfl, hb⟩ := hrel
        have HB := hid hb
        have hsz := hb.size
        clear hb
        by_cases hlt2 : j + 1 < s.all.length
        · obtain ⟨bw, ow, e3, hbw, hc3⟩ := HC3.out.resolve_left (by intro e; rw [e] at hlt2; simp at hlt2)
          subst e3
          have c0 := (HB.out.cell (p := ⟨bw, ow + j * 4, none⟩) hbw).trans (Lt.cells (hc3 j (by omega))).1
          have c1 := (HB.out.cell (p := ⟨bw, ow + (j + 1) * 4, none⟩) hbw).trans (Lt.cells (hc3 (j + 1) hlt2)).1
          have hri := rise_at HRI.out hlt2
          have hbw2 : bw < wr.heap.size := by omega
          clear hc3 hbw
          generalize s.all[j].no = n0 at c0 hri
          generalize s.all[j + 1].no = n1 at c1 hri
          have e0 : decide ((j : Int) + 1 < (s.all.length : Int)) = true := by simp; omega
          have e1 : (0 : Int) ≤ (j : Int) + 1 := by omega
          have e2 : (j : Int) + 1 < (s.all.length : Int) := by omega
          have e3 : decide (n1 ≤ n0) = false := by simp; omega
          have e4 : ¬ n1 ≤ n0 := by omega
          have e5 : IntKind.i64.wrap ((j : Int) + 1 - 1) = (j : Int) := by rw [Int.add_sub_cancel]; exact IntWalk.i64_in _ (by omega)
          have e6 : IntKind.i64.wrap (j : Int) = (j : Int) := IntWalk.i64_in _ (by omega)
          have e7 : (j : Int) < (s.all.length : Int) := by omega
          go_wp2_with fail
          refine wp_region_bw (by kernel_rfl) (by kernel_rfl) ?_
          repeat (go_big_quiet_step (fail))
          refine wpQuiet_nil ?_
          rintro w5 ⟨⟨_, hb5⟩, rfl⟩
          have HB5 := hid (HB.out.trans (hb5.mono hsz))
          clear hb5
          go_wp2_with fail
          go_roundw
          case rel => exact ⟨j + 1, .inl (by omega), by go_num, HB5.out⟩
          case measure => simp [intOf]; omega
        · go_wp2_with fail
          refine (known_any _).mono ?_
          rintro e w3 ⟨rfl, hb3⟩
          go_wp2_with fail
          go_ret
          exact ⟨rfl, (B2.out.own.bel.trans (HB.out.mono B2.out.own.bel.size)).trans (hb3.mono (Nat.le_trans B2.out.own.bel.size hsz))⟩
end C28
end Go.Proofs.Ythmopkaecbebpaa
