/- Walks of layer 28 (net): the law that each letter is on its way, taken, or lost; no condition. -/
import Derived.Test.YthmopkaecbebpaaH28
import Derived.Test.YthmopkaecbebpaaA28
import Derived.Deep.DeepCutAuto
import Derived.Deep.LoopGhost
namespace Go.Peri
namespace Nt
theorem sum_copy {s : Nt} {m : Nat} (h : Inv s m) (hm : m < 1000000) (k : Int) : (s.copy k).sum = s.sum + (if s.has k = true then 1 else 0) := by
  unfold Nt.copy
  split
  · exact sum_send h hm _ _ _
  · rfl
theorem sum_take' (s : Nt) (k : Int) : (s.take k).sum + (if s.has k = true then 1 else 0) = s.sum := by
  split
  · rename_i h; exact sum_take h
  · rename_i h; unfold Nt.take; rw [if_neg h]; rfl
end Nt
end Go.Peri
namespace Go.Proofs.Ythmopkaecbebpaa
open Go.RowKit Go.Peri
namespace C28
theorem counts_bad (v : Value) (l : List Nm) (W : World) (h : RowsOf (· < W.heap.size) Nm.enc 5 W v l) (hb : 800 < l.length) :
    Calls Try.prog 8 #[v] W fun e w' => e = .returned (.bool true) ∧ Below W.heap.size W w' := by
  obtain ⟨a, cap, rfl, _⟩ := h
  have g1 : (800 : Int) < (l.length : Int) := by omega
  go_enter Try.func8, Try.ntmps8
  go_wp2_with fail
  refine (known_any _).mono ?_
  rintro e w1 ⟨rfl, hb1⟩
  go_wp2_with fail
  go_ret
  exact ⟨rfl, hb1⟩
set_option maxRecDepth 100000 in
set_option maxHeartbeats 4000000 in
theorem counts_good (v : Value) (l : List Nm) (W : World) (h : RowsOf (· < W.heap.size) Nm.enc 5 W v l) (hw : ∀ m ∈ l, m.Wf) (hl : l.length ≤ 800) :
    Calls Try.prog 8 #[v] W fun e w' => e = .returned (.bool true) ∧ Below W.heap.size W w' := by
  obtain ⟨a, cap, rfl, hlc, hcm, _, hcell⟩ := h
  have HC := hid hcell
  have HWF := hid hw
  have g1 : ¬ (800 : Int) < (l.length : Int) := by omega
  clear hcell hcm hw
  go_enter Try.func8, Try.ntmps8
  go_wp2_with fail
  refine (own_new W).mono ?_
  rintro e w1 ⟨rfl, H1⟩
  go_wp2_with fail
  go_loopw [4, 5, 6] (fun mx tx ix wr => ∃ (k mk tk : Nat) (s : Nt), k ≤ l.length ∧ ix = .int .i64 k ∧ mx = .int .i64 mk ∧ tx = .int .i64 tk ∧ mk ≤ k ∧ tk ≤ k ∧ s.sum + tk = mk ∧ Own W wr k s) (fun _ _ ix _ => l.length - (intOf ix).toNat)
  case atStart => exact ⟨0, 0, 0, Nt.new, Nat.zero_le _, rfl, rfl, rfl, Nat.le_refl _, Nat.le_refl _, rfl, H1.out⟩
  case round =>
    obtain ⟨k, mk, tk, s, hk, rfl, rfl, rfl, hmk, htk, hsum, ho⟩ := hrel
    have HO := hid ho
    have HS := hid hsum
    clear ho H1 hsum
    by_cases hlt : k < l.length
    · obtain ⟨b, off, rfl, hpb, hc⟩ := HC.out.resolve_left (by intro e; rw [e] at hlt; simp at hlt)
      have hcx := hc k hlt
      have hwf := HWF.out _ (List.getElem_mem hlt)
      clear hc
      generalize l[k] = y at hcx hwf
      obtain ⟨kind, fr, tw, bs, kk⟩ := y
      have hbs : bs.size ≤ 140737488351232 := hwf
      have KEEP : Hid (∀ w', Below W.heap.size W w' → w'.cell? ⟨b, off + k * 5, none⟩ = some (.int .i64 kind) ∧ w'.cell? ⟨b, off + k * 5 + 1, none⟩ = some (.int .i64 fr) ∧ w'.cell? ⟨b, off + k * 5 + 2, none⟩ = some (.int .i64 tw) ∧ w'.cell? ⟨b, off + k * 5 + 3, none⟩ = some (.string bs) ∧ w'.cell? ⟨b, off + k * 5 + 4, none⟩ = some (.int .i64 kk)) := fun w' hb => Nm.cells (fun j u hu => (hb.cell (p := ⟨b, off + k * 5 + j, none⟩) hpb).trans (hcx j u hu))
      obtain ⟨y0, y1, y2, y3, y4⟩ := KEEP.out _ HO.out.bel
      have hbl : b < wr.heap.size := Nat.lt_of_lt_of_le hpb HO.out.bel.size
      clear hcx hwf
      by_cases hbig : 300 < bs.size
      · have hb1 : (300 : Int) < (bs.size : Int) := by omega
        go_wp2_with fail
        refine (known_any _).mono ?_
        rintro e w3 ⟨rfl, hb3⟩
        go_wp2_with fail
        go_ret
        exact ⟨rfl, HO.out.bel.trans (hb3.mono HO.out.bel.size)⟩
      have hb1 : ¬ (300 : Int) < (bs.size : Int) := by omega
      go_upto_region 10 with fail
      go_cut [7] (fun s7 wx => s7 = .bool (s.has kk) ∧ Own W wx k s)
      case first =>
        by_cases h0 : 0 ≤ kk
        · have h0b : decide (0 ≤ kk) = true := decide_eq_true h0
          have hh : Hid (s.has kk = decide (kk < (s.all.length : Int))) := by show _ = _; unfold Nt.has; rw [h0b]; rfl
          have CA : Hid (Calls Try.prog 34 #[.pointer (some ⟨W.heap.size, 0, none⟩)] wr.drew (AllQ W k s)) := own_all _ (HO.out.later (Below.refl _ _).drew)
          go_region_held3 (fun w' => w'.cell? ⟨b, off + k * 5 + 4, none⟩ = some (.int .i64 kk))
            (first | exact (KEEP.out _ hc2).2.2.2.2 | exact (KEEP.out _ HO.out.bel.drew).2.2.2.2)
            ((go_at_call 34; refine CA.out.mono ?_; rintro e w2 ⟨a2, cap2, rfl, B2⟩; have hc2 : Below W.heap.size W w2 := B2.out.own.bel))
          all_goals
            go_wp2_with fail
            go_meet
            case rel => exact ⟨by rw [hh.out], B2.out.own⟩
        · have h0b : decide (0 ≤ kk) = false := decide_eq_false h0
          have hh : Hid (s.has kk = false) := by show _ = _; unfold Nt.has; rw [h0b]; rfl
          refine wp_region_bw (by kernel_rfl) (by kernel_rfl) ?_
          repeat (go_big_quiet_step (fail))
          refine wpQuiet_nil ?_
          rintro w2 ⟨⟨_, hb2⟩, rfl⟩
          have HB2 := hid hb2
          clear hb2
          go_wp2_with fail
          go_meet
          case rel => exact ⟨by rw [hh.out], HO.out.later HB2.out⟩
      case rest =>
      obtain ⟨rfl, hown⟩ := hcut
      have HO2 := hid hown
      obtain ⟨y0, y1, y2, y3, y4⟩ := KEEP.out _ hown.bel
      have hbl2 : b < wc.heap.size := Nat.lt_of_lt_of_le hpb hown.bel.size
      have HI := hid hown.inv
      have hk800 : k < 1000000 := by omega
      clear hown HO
      by_cases hk0 : kind = 0
      · subst hk0
        have hsm := Nt.sum_send HI.out hk800 fr tw bs
        obtain ⟨s2, hs2⟩ : ∃ s2, s.send fr tw bs = s2 := ⟨_, rfl⟩
        rw [hs2] at hsm
        have HN := hid (show s2.sum + tk = mk + 1 by have := HS.out; omega)
        have HS2 := hid hs2
        clear hsm hs2
        go_wp2_with fail
        refine wp_region_still_tail 16 (by kernel_rfl) (by kernel_rfl) ?_
        simp only [List.take_succ_cons, List.take_zero, List.drop_succ_cons, List.drop_zero]
        repeat still_step
        refine wpStill_nil ?_
        change wpList _ _ _ _ _ wc.drew
        go_wp2_with fail
        refine (own_send fr tw bs _ s2 wc.drew (HO2.out.later (Below.refl _ _).drew) (by omega) rfl HS2.out).mono ?_
        rintro e w2 ⟨rfl, H2⟩
        go_wp2_with fail
        go_roundw
        case rel => exact ⟨k + 1, mk + 1, tk, s2, by omega, by go_num, by go_num, rfl, by omega, by omega, HN.out, H2.out⟩
        case measure => simp [intOf]; omega
      have hk0b : (kind == 0) = false := by simpa using hk0
      clear hk0
      by_cases hk1 : kind = 1
      · subst hk1
        have hsm := Nt.sum_take' s kk
        obtain ⟨s2, hs2⟩ : ∃ s2, s.take kk = s2 := ⟨_, rfl⟩
        rw [hs2] at hsm
        have HS2 := hid hs2
        obtain ⟨r, hr⟩ : ∃ r, s.has kk = r := ⟨_, rfl⟩
        rw [hr] at hsm ⊢
        have HR := hid hr
        have HM := hid hsm
        clear hs2 hr hsm
        cases r
        · have HN := hid (show s2.sum + tk = mk by have := HS.out; have h9 := HM.out; simp at h9; omega)
          go_wp2_with fail
          refine (own_take kk s2 _ _ wc HO2.out HR.out HS2.out rfl).mono ?_
          rintro e w2 ⟨rfl, H2⟩
          go_wp2_with fail
          go_roundw
          case rel => exact ⟨k + 1, mk, tk, s2, by omega, by go_num, rfl, rfl, by omega, by omega, HN.out, H2.out.later (by go_grown)⟩
          case measure => simp [intOf]; omega
        · have HN := hid (show s2.sum + (tk + 1) = mk by have := HS.out; have h9 := HM.out; simp at h9; omega)
          go_wp2_with fail
          refine (own_take kk s2 _ _ wc HO2.out HR.out HS2.out rfl).mono ?_
          rintro e w2 ⟨rfl, H2⟩
          go_wp2_with fail
          go_roundw
          case rel => exact ⟨k + 1, mk, tk + 1, s2, by omega, by go_num, rfl, by go_num, by omega, by omega, HN.out, H2.out.later (by go_grown)⟩
          case measure => simp [intOf]; omega
      have hk1b : (kind == 1) = false := by simpa using hk1
      clear hk1
      by_cases hk2 : kind = 2
      · subst hk2
        have hsm := Nt.sum_lose HI.out hk800 kk
        obtain ⟨s2, hs2⟩ : ∃ s2, s.lose kk = s2 := ⟨_, rfl⟩
        rw [hs2] at hsm
        have HN := hid (show s2.sum + tk = mk by have := HS.out; omega)
        have HS2 := hid hs2
        clear hsm hs2
        go_wp2_with fail
        refine (own_lose kk s2 _ wc HO2.out rfl HS2.out).mono ?_
        rintro e w2 ⟨rfl, H2⟩
        go_wp2_with fail
        go_roundw
        case rel => exact ⟨k + 1, mk, tk, s2, by omega, by go_num, rfl, rfl, by omega, by omega, HN.out, H2.out⟩
        case measure => simp [intOf]; omega
      have hk2b : (kind == 2) = false := by simpa using hk2
      clear hk2
      have hsm := Nt.sum_copy HI.out hk800 kk
      obtain ⟨s2, hs2⟩ : ∃ s2, s.copy kk = s2 := ⟨_, rfl⟩
      rw [hs2] at hsm
      have HS2 := hid hs2
      obtain ⟨r, hr⟩ : ∃ r, s.has kk = r := ⟨_, rfl⟩
      rw [hr] at hsm ⊢
      have HM := hid hsm
      clear hs2 hr hsm
      cases r
      · have HN := hid (show s2.sum + tk = mk by have := HS.out; have h9 := HM.out; simp at h9; omega)
        go_wp2_with fail
        refine (own_copy kk s2 _ wc HO2.out (by omega) rfl HS2.out).mono ?_
        rintro e w2 ⟨rfl, H2⟩
        go_wp2_with fail
        go_roundw
        case rel => exact ⟨k + 1, mk, tk, s2, by omega, by go_num, rfl, rfl, by omega, by omega, HN.out, H2.out⟩
        case measure => simp [intOf]; omega
      · have HN := hid (show s2.sum + tk = mk + 1 by have := HS.out; have h9 := HM.out; simp at h9; omega)
        go_wp2_with fail
        refine (own_copy kk s2 _ wc HO2.out (by omega) rfl HS2.out).mono ?_
        rintro e w2 ⟨rfl, H2⟩
        go_wp2_with fail
        go_roundw
        case rel => exact ⟨k + 1, mk + 1, tk, s2, by omega, by go_num, by go_num, rfl, by omega, by omega, HN.out, H2.out⟩
        case measure => simp [intOf]; omega
    · obtain rfl : k = l.length := by omega
      go_wp2_with fail
      refine (own_all wr HO.out).mono ?_
      rintro e w2 ⟨a2, cap2, rfl, B2⟩
      have HL := hid HO.out.inv.len
      have HLo := hid HO.out.inv.lost
      have hl1 : s.all.length ≤ 256 := HL.out
      have hl2 : s.lost ≤ l.length := HLo.out
      go_wp2_with fail
      refine (own_lost w2 B2.out.own).mono ?_
      rintro e w' ⟨rfl, rfl⟩
      have hq : ((s.all.length : Int) + (tk : Int) + (s.lost : Int) == (mk : Int)) = true := by
        have := HS.out
        unfold Nt.sum at this
        simp only [beq_iff_eq]
        omega
      go_wp2_with fail
      refine (known_any _).mono ?_
      rintro e w3 ⟨rfl, hb3⟩
      go_wp2_with fail
      go_ret
      exact ⟨rfl, B2.out.own.bel.trans (hb3.mono B2.out.own.bel.size)⟩
end C28
end Go.Proofs.Ythmopkaecbebpaa
