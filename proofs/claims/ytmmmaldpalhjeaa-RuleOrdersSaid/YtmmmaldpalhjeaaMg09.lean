/- Walks of layer 12 (rule): rules merged, the border ahead of the middle; no condition. Walks of layer 12 (rule): rules merged; no condition. Walks of layer 12 (rule): a part of a row of rules by its rank; no condition. Walks of layer 12 (rule): the stable sort of up to 40 rules; no condition. Walks of layer 12 (rule): Order on up to 40 rules; no condition. Walks of layer 12 (rule): the document's Order; no condition. -/
import Derived.Test.YtmmmaldpalhjeaaMg08
import Derived.Test.YtmmmaldpalhjeaaMg06
import Derived.Test.YtmmmaldpalhjeaaMg05
import Derived.Test.YtmmmaldpalhjeaaMg02
namespace Go.Proofs.Ytmmmaldpalhjeaa
open Go.RowKit Go.Peri Go.Shelf Go.Lib Go.Sort
namespace C12
set_option maxHeartbeats 16000000 in
set_option maxRecDepth 1000000 in
theorem symMidB_gen {P : Program} (FG : P.funcs[(194 : Nat)]? = some Try.f194) (kc : Nat) (L : LayR P kc) (LU : LayU P) (eg : ∀ args w, (callFunc 110 args).run P w = .ok (.enter 110 args) w) (er : ∀ args w, (callFunc 234 args).run P w = .ok (.enter 234 args) w) (es : ∀ args w, (callFunc 194 args).run P w = .ok (.enter 194 args) w)
    (blk off cap N a m b : Nat) (d0 : Array Rl) (w0 w : World) (hcmp : CmpLays P 110 #[] Rl.enc kc cf blk off N w0) (R : RowK Rl.enc kc w0 blk off d0) (hN : d0.size = N) (A x y B : List Rl) (ha : A.length = a) (hm : a + x.length = m) (hb : m + y.length = b) (hB : b + B.length = N) (hx2 : 2 ≤ x.length) (hy2 : 2 ≤ y.length) (hfx : Srt.Falls Rl.rank x) (hfy : Srt.Falls Rl.rank y) (hsz : N < 4611686018427387904)
    (HROT : ∀ (a m b : Nat) (A U V B : List Rl) (w : World), A.length + (U.length + (V.length + B.length)) = N → A.length = a → a + U.length = m → m + V.length = b → 0 < U.length → 0 < V.length → SWK Rl.enc kc w0 blk off (A ++ (U ++ (V ++ B))).toArray w → Calls P 234 #[.slice (some ⟨blk, off, none⟩) N cap, .int .i64 a, .int .i64 m, .int .i64 b, .func (.func 110) #[] #[]] w fun e w' => e = .returned (.tuple #[]) ∧ SWK Rl.enc kc w0 blk off (A ++ (V ++ (U ++ B))).toArray w')
    (HREC : ∀ (a m b : Nat) (A X Y B : List Rl) (w : World), X.length + Y.length < x.length + y.length → A.length = a → a + X.length = m → m + Y.length = b → b + B.length = N → 0 < X.length → 0 < Y.length → Srt.Falls Rl.rank X → Srt.Falls Rl.rank Y → SWK Rl.enc kc w0 blk off (A ++ (X ++ (Y ++ B))).toArray w → Calls P 194 #[.slice (some ⟨blk, off, none⟩) N cap, .int .i64 a, .int .i64 m, .int .i64 b, .func (.func 110) #[] #[]] w fun e w' => e = .returned (.tuple #[]) ∧ SWK Rl.enc kc w0 blk off (A ++ (Srt.order Rl.rank (X ++ Y) ++ B)).toArray w')
    (mid : Nat) (hmid : (a + b) / 2 = mid) (hcase : m ≤ mid)
    (S : SWK Rl.enc kc w0 blk off (A ++ (x ++ (y ++ B))).toArray w) :
    Calls P 194 #[.slice (some ⟨blk, off, none⟩) N cap, .int .i64 a, .int .i64 m, .int .i64 b, .func (.func 110) #[] #[]] w fun e w' => e = .returned (.tuple #[]) ∧ SWK Rl.enc kc w0 blk off (A ++ (Srt.order Rl.rank (x ++ y) ++ B)).toArray w' := by
  have mixed := L.mixed; have t0 := L.t0; have a0 := L.a0; have z0 := L.z0; have v0 := L.v0; have t3 := L.t3; have a3 := L.a3; have z3 := L.z3; have v3 := L.v3; have t4 := L.t4; have a4 := L.a4; have z4 := L.z4; have v4 := L.v4; have t22 := L.t22; have a22 := L.a22; have z22 := L.z22; have v22 := L.v22; have aE := L.aE; have zE := L.zE
  have tu := LU.tu; have au := LU.au; have zu := LU.zu; have vu := LU.vu
  clear L LU
  obtain ⟨D, hDe⟩ : ∃ D, D = (A ++ (x ++ (y ++ B))).toArray := ⟨_, rfl⟩
  have hD : D.size = N := by rw [hDe]; simp only [List.size_toArray, List.length_append]; omega
  have hex : ∀ c, a ≤ c → c < m → D[c]! = x[c - a]! := fun c h1 h2 => by rw [hDe]; exact at_mid ha h1 (by omega)
  have hey : ∀ c, m ≤ c → c < b → D[c]! = y[c - m]! := fun c h1 h2 => by
    rw [hDe]
    have := at_mid (A := A ++ x) (x := y) (R := B) (a := m) (c := c) (by rw [List.length_append]; omega) h1 (by omega)
    simpa [List.append_assoc] using this
  have HEX := hid hex
  have HEY := hid hey
  have HDE := hid hDe
  have HC := hid hcmp
  have HNN := hid hN
  have HDD := hid hD
  rw [← hDe] at S
  have S0 := hid S
  replace HROT := hid HROT
  replace HREC := hid HREC
  have HFX := hid hfx
  have HFY := hid hfy
  obtain ⟨p, hp⟩ : ∃ p, mid + m - 1 = p := ⟨_, rfl⟩
  obtain ⟨lo, hlo⟩ : ∃ lo, a = lo := ⟨_, rfl⟩
  obtain ⟨hi, hhi⟩ : ∃ hi, m = hi := ⟨_, rfl⟩
  have HL : Hid (a ≤ lo ∧ lo ≤ hi ∧ hi ≤ mid ∧ hi ≤ m ∧ p - lo < b ∧ p + 1 - hi ≥ m ∧ p + 1 = mid + m ∧ (lo = a ∨ p + 1 - lo = b) ∧ (hi = m ∨ p + 1 - hi = m)) := hid (by omega)
  have HAL := hid ha
  have HXL := hid hm
  have HYL := hid hb
  have HBL := hid hB
  have HX2 := hid hx2
  have HY2 := hid hy2
  obtain ⟨sab, hsab⟩ : ∃ s, a + b = s := ⟨_, rfl⟩
  have f0 : IntKind.i64.wrap ((a : Int) + (b : Int)) = (sab : Int) := by rw [IntKind.wrap_i64]; omega
  have f1 : IntKind.u64.wrap (sab : Int) = (sab : Int) := by rw [IntKind.wrap_u64]; omega
  have f2 : ((sab : Int) / 2) = (mid : Int) := by omega
  have f3 : IntKind.u64.wrap (mid : Int) = (mid : Int) := by rw [IntKind.wrap_u64]; omega
  have f4 : IntKind.i64.wrap (mid : Int) = (mid : Int) := by rw [IntKind.wrap_i64]; omega
  obtain ⟨n, hn⟩ : ∃ n, mid + m = n := ⟨_, rfl⟩
  have f5 : IntKind.i64.wrap ((mid : Int) + (m : Int)) = (n : Int) := by rw [IntKind.wrap_i64]; omega
  have f6 : IntKind.i64.wrap ((n : Int) - 1) = (p : Int) := by rw [IntKind.wrap_i64]; omega
  have gm : decide ((mid : Int) < (m : Int)) = false := decide_eq_false (by omega)
  skip
  have r0 : IntKind.i64.wrap ((m : Int) - (a : Int)) = ((m - a : Nat) : Int) := by rw [IntKind.wrap_i64]; omega
  obtain ⟨q0, hq0⟩ : ∃ q, m - a = q := ⟨_, rfl⟩
  rw [hq0] at r0
  have r1 : IntKind.i64.wrap ((b : Int) - (m : Int)) = ((b - m : Nat) : Int) := by rw [IntKind.wrap_i64]; omega
  obtain ⟨q1, hq1⟩ : ∃ q, b - m = q := ⟨_, rfl⟩
  rw [hq1] at r1
  have r2 : ((q0 : Int) == 1) = false := by rw [beq_eq_false_iff_ne]; omega
  have r3 : ¬ (q0 = 1) := by omega
  have r4 : ((q1 : Int) == 1) = false := by rw [beq_eq_false_iff_ne]; omega
  have r5 : ¬ (q1 = 1) := by omega
  have HPN : Hid (p + 1 = n) := hid (by omega)
  have HSAB : Hid (b ≤ N) := hid (by omega)
  have HMM : Hid (a + b = 2 * mid ∨ a + b = 2 * mid + 1) := hid (by omega)
  subst hhi; subst hlo
  clear hcmp hN hD hex hey hDe S hfx hfy hx2 hy2 hq0 hq1 hn hsab hmid hp ha hm hb hB 
  go_enter FG, Try.ntmps194
  go_wp2_with fail
  go_loopw [20, 21] (fun s t wr => ∃ i j : Nat, s = .int .i64 i ∧ t = .int .i64 j ∧ a ≤ i ∧ i ≤ j ∧ j ≤ m ∧ Hid (i = a ∨ D[p - (i - 1)]!.rank ≤ D[i - 1]!.rank) ∧ Hid (j = m ∨ D[j]!.rank < D[p - j]!.rank) ∧ Hid (SWK Rl.enc kc w0 blk off D wr)) (fun s t _ => (intOf t).toNat - (intOf s).toNat)
  case atStart => exact ⟨_, _, rfl, rfl, Nat.le_refl _, HL.out.2.1, Nat.le_refl _, hid (Or.inl rfl), hid (Or.inl rfl), S0⟩
  case round =>
    have HCA := hid hcase
    clear S0 r0 r1 r2 r3 r4 r5 f0 f1 f2 f3 f4 f5 f6 gm hcase
    obtain ⟨i, j, rfl, rfl, h1, h2, h3, HI, HJ, S1⟩ := hrel
    obtain ⟨l1, l2, l3, l4, l5, l6, l7, l8, l9⟩ := HL.out
    have hDs := HDD.out
    have hNs := HNN.out
    have hbN := HSAB.out
    by_cases hij : i < j
    · have g0 : decide ((i : Int) < (j : Int)) = true := decide_eq_true (by omega)
      have e0 : IntKind.i64.wrap ((i : Int) + (j : Int)) = ((i + j : Nat) : Int) := by rw [IntKind.wrap_i64]; omega
      obtain ⟨s, hs⟩ : ∃ s, i + j = s := ⟨_, rfl⟩
      rw [hs] at e0
      have e1 : IntKind.u64.wrap (s : Int) = (s : Int) := by rw [IntKind.wrap_u64]; omega
      obtain ⟨h, hh⟩ : ∃ h, s / 2 = h := ⟨_, rfl⟩
      have e2 : ((s : Int) / 2) = (h : Int) := by omega
      have e3 : IntKind.u64.wrap (h : Int) = (h : Int) := by rw [IntKind.wrap_u64]; omega
      have e4 : IntKind.i64.wrap (h : Int) = (h : Int) := by rw [IntKind.wrap_i64]; omega
      obtain ⟨g, hg⟩ : ∃ g, p - h = g := ⟨_, rfl⟩
      have hpq : g + h = p ∧ g < N ∧ h < N := by omega
      have e5 : IntKind.i64.wrap ((p : Int) - (h : Int)) = (g : Int) := by rw [IntKind.wrap_i64]; omega
      have ea : ((h : Int)).toNat = h := by omega
      have pa : (0 : Int) ≤ (h : Int) := by omega
      have ba : (h : Int) < (N : Int) := by omega
      have ec : ((g : Int)).toNat = g := by omega
      have pc : (0 : Int) ≤ (g : Int) := by omega
      have bc : (g : Int) < (N : Int) := by omega
      obtain ⟨x, hx⟩ : ∃ x, x = D[g]! := ⟨_, rfl⟩
      obtain ⟨y, hy⟩ : ∃ y, y = D[h]! := ⟨_, rfl⟩
      have la := S1.out.ld R (by omega) P h (by omega)
      have lb := S1.out.ld R (by omega) P g (by omega)
      rw [← hy] at la
      rw [← hx] at lb
      have hc := S1.out.cmp HC.out hDs x y
      have HX := hid hx
      have HY := hid hy
      have h4 : i ≤ h := by omega
      have h5 : h < j := by omega
      clear hx hy hDs hNs hs hh l1 l2 l3 l4 l5 l6 l7 l8 l9 hg hbN
      by_cases hv : cf x y < 0
      · have hd : decide (cf x y < 0) = true := decide_eq_true hv
        have HV : Hid (D[h]!.rank < D[p - h]!.rank) := hid (by rw [show p - h = g by omega, ← HX.out, ← HY.out]; exact (rank_lt x y).1 hv)
        clear hpq
        go_wp2_with fail
        go_quiet_grown (first | (go_at_fn 110; refine Calls.grown_of (hc _ _)))
        have S2 : Hid (SWK Rl.enc kc w0 blk off D (grow (wr.drewN nq) osq)) := hid (S1.out.grown nq osq)
        clear la lb hc S1
        generalize grow (wr.drewN nq) osq = w2 at S2 ⊢
        clear nq osq
        go_wp2_with fail
        go_roundw
        case rel => exact ⟨i, h, rfl, rfl, h1, h4, by omega, HI, hid (Or.inr HV.out), S2⟩
        case measure => simp [intOf]; omega
      · have hd : decide (cf x y < 0) = false := decide_eq_false hv
        have HV : Hid (D[p - (h + 1 - 1)]!.rank ≤ D[h + 1 - 1]!.rank) := hid (by rw [Nat.add_sub_cancel, show p - h = g by omega, ← HX.out, ← HY.out]; exact Int.not_lt.1 (fun hq => hv ((rank_lt x y).2 hq)))
        clear hpq
        go_wp2_with fail
        go_quiet_grown (first | (go_at_fn 110; refine Calls.grown_of (hc _ _)))
        have S2 : Hid (SWK Rl.enc kc w0 blk off D (grow (wr.drewN nq) osq)) := hid (S1.out.grown nq osq)
        clear la lb hc S1
        generalize grow (wr.drewN nq) osq = w2 at S2 ⊢
        clear nq osq
        go_wp2_with fail
        go_roundw
        case rel => exact ⟨h + 1, j, by go_num, rfl, by omega, by omega, h3, hid (Or.inr HV.out), HJ, S2⟩
        case measure => simp [intOf]; omega
    · obtain rfl : i = j := by omega
      obtain ⟨s, rfl⟩ : ∃ s, s = i := ⟨_, rfl⟩
      obtain ⟨t, ht⟩ : ∃ t, n - s = t := ⟨_, rfl⟩
      have hpn := HPN.out
      have hmm := HMM.out
      have hcase := HCA.out
      have hxl := HXL.out
      have hyl := HYL.out
      have hal := HAL.out
      have hbl := HBL.out
      have hx2 := HX2.out
      have hy2 := HY2.out
      have e5 : IntKind.i64.wrap ((n : Int) - (s : Int)) = (t : Int) := by rw [IntKind.wrap_i64]; omega
      have hcut := Srt.cut_both Rl.rank x y HFX.out HFY.out (s - a) (t - m) (by omega) (by omega) (by
        by_cases c1 : s = a
        · exact Or.inl (by omega)
        by_cases c2 : t = b
        · exact Or.inr (Or.inl (by omega))
        have c3 := HI.out.resolve_left (by omega)
        rw [HEX.out (s - 1) (by omega) (by omega), HEY.out (p - (s - 1)) (by omega) (by omega)] at c3
        refine Or.inr (Or.inr ?_)
        rw [show t - m = p - (s - 1) - m by omega, show s - a - 1 = s - 1 - a by omega]
        exact c3) (by
        by_cases c1 : t = m
        · exact Or.inl (by omega)
        by_cases c2 : s = m
        · exact Or.inr (Or.inl (by omega))
        have c3 := HJ.out.resolve_left (by omega)
        rw [HEX.out s (by omega) (by omega), HEY.out (p - s) (by omega) (by omega)] at c3
        refine Or.inr (Or.inr ?_)
        rw [show t - m - 1 = p - s - m by omega]
        exact c3)
      have S1' := S1.out
      rw [HDE.out] at S1'
      have hf1 := Srt.falls_take Rl.rank x HFX.out (s - a)
      have hf2 := Srt.falls_drop Rl.rank x HFX.out (s - a)
      have hf3 := Srt.falls_take Rl.rank y HFY.out (t - m)
      have hf4 := Srt.falls_drop Rl.rank y HFY.out (t - m)
      obtain ⟨x1, x2, hxx, k1, k2, ex1, ex2⟩ : ∃ x1 x2, x1 ++ x2 = x ∧ x1.length = s - a ∧ x2.length = m - s ∧ x.take (s - a) = x1 ∧ x.drop (s - a) = x2 := ⟨_, _, List.take_append_drop (s - a) x, by rw [List.length_take]; omega, by rw [List.length_drop]; omega, rfl, rfl⟩
      obtain ⟨y1, y2, hyy, k3, k4, ey1, ey2⟩ : ∃ y1 y2, y1 ++ y2 = y ∧ y1.length = t - m ∧ y2.length = b - t ∧ y.take (t - m) = y1 ∧ y.drop (t - m) = y2 := ⟨_, _, List.take_append_drop (t - m) y, by rw [List.length_take]; omega, by rw [List.length_drop]; omega, rfl, rfl⟩
      rw [ex1, ex2, ey1, ey2] at hcut
      rw [ex1] at hf1
      rw [ex2] at hf2
      rw [ey1] at hf3
      rw [ey2] at hf4
      obtain ⟨w1, rfl⟩ : ∃ w1, w1 = wr := ⟨_, rfl⟩
      have S1 : Hid (SWK Rl.enc kc w0 blk off (A ++ (x1 ++ (x2 ++ (y1 ++ (y2 ++ B))))).toArray w1) := hid (by
        rw [← hxx, ← hyy] at S1'
        simpa only [List.append_assoc] using S1')
      have hcut := hid hcut
      have hf1 := hid hf1
      have hf2 := hid hf2
      have hf3 := hid hf3
      have hf4 := hid hf4
      have hrest : s ≤ m ∧ s ≤ mid ∧ a ≤ s ∧ t ≤ b ∧ m ≤ t ∧ t + s = mid + m := by omega
      have k5 : x1.length + x2.length = x.length := by rw [← hxx, List.length_append]
      have k6 : y1.length + y2.length = y.length := by rw [← hyy, List.length_append]
      clear S1' ex1 ex2 ey1 ey2 hxx hyy HI HJ HEX HEY HFX HFY HDE HDD HNN hDs hNs
      clear h1 h2 h3 hij
      by_cases q1 : s < m
      · by_cases q2 : s < mid
        · by_cases q3 : a < s
          · by_cases q4 : t < b
            · skip
              first
              | (exfalso; omega)
              | (
                  have g0 : decide ((s : Int) < (m : Int)) = true := decide_eq_true (by omega)
                  have g1 : decide ((m : Int) < (t : Int)) = true := decide_eq_true (by omega)
                  have g2 : decide ((a : Int) < (s : Int)) = true := decide_eq_true (by omega)
                  have g3 : decide ((s : Int) < (mid : Int)) = true := decide_eq_true (by omega)
                  have g4 : decide ((mid : Int) < (t : Int)) = true := decide_eq_true (by omega)
                  have g5 : decide ((t : Int) < (b : Int)) = true := decide_eq_true (by omega)
                  have HC1 := hid (HROT.out s m t (A ++ x1) x2 y1 (y2 ++ B) w1 (by simp only [List.length_append]; omega) (by rw [List.length_append]; omega) (by omega) (by omega) (by omega) (by omega) (by have := S1.out; simpa only [List.append_assoc] using this))
                  go_wp2_with fail
                  refine HC1.out.mono ?_
                  rintro e w2 ⟨rfl, hs2⟩
                  have S2 : Hid (SWK Rl.enc kc w0 blk off (A ++ (x1 ++ (y1 ++ (x2 ++ (y2 ++ B))))).toArray w2) := hid (by simpa only [List.append_assoc] using hs2)
                  clear hs2 HC1 S1
                  have HC2 := hid (HREC.out a s mid A x1 y1 (x2 ++ (y2 ++ B)) w2 (by omega) hal (by omega) (by omega) (by simp only [List.length_append]; omega) (by omega) (by omega) hf1.out hf3.out S2.out)
                  go_wp2_with fail
                  refine HC2.out.mono ?_
                  rintro e w3 ⟨rfl, hs3⟩
                  have S3 := hid hs3
                  clear hs3 HC2 S2
                  have HC3 := hid (HREC.out mid t b (A ++ Srt.order Rl.rank (x1 ++ y1)) x2 y2 B w3 (by omega) (by rw [List.length_append, Srt.order_length, List.length_append]; omega) (by omega) (by omega) (by omega) (by omega) (by omega) hf2.out hf4.out (by have := S3.out; simpa only [List.append_assoc] using this))
                  go_wp2_with fail
                  refine HC3.out.mono ?_
                  rintro e w4 ⟨rfl, hs4⟩
                  have S4 : Hid (SWK Rl.enc kc w0 blk off (A ++ (Srt.order Rl.rank (x1 ++ y1) ++ (Srt.order Rl.rank (x2 ++ y2) ++ B))).toArray w4) := hid (by simpa only [List.append_assoc] using hs4)
                  clear hs4 HC3 S3
                  go_wp2_with fail
                  go_end0
                  refine ⟨rfl, ?_⟩
                  have := S4.out
                  rw [← List.append_assoc (Srt.order Rl.rank (x1 ++ y1)), hcut.out] at this
                  exact this)
            · skip
              first
              | (exfalso; omega)
              | (
                  have g0 : decide ((s : Int) < (m : Int)) = true := decide_eq_true (by omega)
                  have g1 : decide ((m : Int) < (t : Int)) = true := decide_eq_true (by omega)
                  have g2 : decide ((a : Int) < (s : Int)) = true := decide_eq_true (by omega)
                  have g3 : decide ((s : Int) < (mid : Int)) = true := decide_eq_true (by omega)
                  have g4 : decide ((mid : Int) < (t : Int)) = true := decide_eq_true (by omega)
                  have g5 : decide ((t : Int) < (b : Int)) = false := decide_eq_false (by omega)
                  have HC1 := hid (HROT.out s m t (A ++ x1) x2 y1 (y2 ++ B) w1 (by simp only [List.length_append]; omega) (by rw [List.length_append]; omega) (by omega) (by omega) (by omega) (by omega) (by have := S1.out; simpa only [List.append_assoc] using this))
                  go_wp2_with fail
                  refine HC1.out.mono ?_
                  rintro e w2 ⟨rfl, hs2⟩
                  have S2 : Hid (SWK Rl.enc kc w0 blk off (A ++ (x1 ++ (y1 ++ (x2 ++ (y2 ++ B))))).toArray w2) := hid (by simpa only [List.append_assoc] using hs2)
                  clear hs2 HC1 S1
                  have HC2 := hid (HREC.out a s mid A x1 y1 (x2 ++ (y2 ++ B)) w2 (by omega) hal (by omega) (by omega) (by simp only [List.length_append]; omega) (by omega) (by omega) hf1.out hf3.out S2.out)
                  go_wp2_with fail
                  refine HC2.out.mono ?_
                  rintro e w3 ⟨rfl, hs3⟩
                  have S3 := hid hs3
                  clear hs3 HC2 S2
                  have e6 : y2 = [] := List.length_eq_zero_iff.1 (by omega)
                  have S4 : Hid (SWK Rl.enc kc w0 blk off (A ++ (Srt.order Rl.rank (x1 ++ y1) ++ (Srt.order Rl.rank (x2 ++ y2) ++ B))).toArray w3) := hid (by
                    have e7 : Srt.order Rl.rank (x2 ++ y2) = x2 ++ y2 := Srt.order_self Rl.rank _ (by rw [e6]; simpa using hf2.out)
                    rw [e7, List.append_assoc]
                    exact S3.out)
                  obtain ⟨w4, rfl⟩ : ∃ w4, w4 = w3 := ⟨_, rfl⟩
                  clear S3
                  go_wp2_with fail
                  go_end0
                  refine ⟨rfl, ?_⟩
                  have := S4.out
                  rw [← List.append_assoc (Srt.order Rl.rank (x1 ++ y1)), hcut.out] at this
                  exact this)
          · by_cases q4 : t < b
            · skip
              first
              | (exfalso; omega)
              | (
                  have g0 : decide ((s : Int) < (m : Int)) = true := decide_eq_true (by omega)
                  have g1 : decide ((m : Int) < (t : Int)) = true := decide_eq_true (by omega)
                  have g2 : decide ((a : Int) < (s : Int)) = false := decide_eq_false (by omega)
                  have g3 : decide ((s : Int) < (mid : Int)) = true := decide_eq_true (by omega)
                  have g4 : decide ((mid : Int) < (t : Int)) = true := decide_eq_true (by omega)
                  have g5 : decide ((t : Int) < (b : Int)) = true := decide_eq_true (by omega)
                  have HC1 := hid (HROT.out s m t (A ++ x1) x2 y1 (y2 ++ B) w1 (by simp only [List.length_append]; omega) (by rw [List.length_append]; omega) (by omega) (by omega) (by omega) (by omega) (by have := S1.out; simpa only [List.append_assoc] using this))
                  go_wp2_with fail
                  refine HC1.out.mono ?_
                  rintro e w2 ⟨rfl, hs2⟩
                  have S2 : Hid (SWK Rl.enc kc w0 blk off (A ++ (x1 ++ (y1 ++ (x2 ++ (y2 ++ B))))).toArray w2) := hid (by simpa only [List.append_assoc] using hs2)
                  clear hs2 HC1 S1
                  have e8 : x1 = [] := List.length_eq_zero_iff.1 (by omega)
                  have S3 : Hid (SWK Rl.enc kc w0 blk off (A ++ (Srt.order Rl.rank (x1 ++ y1) ++ (x2 ++ (y2 ++ B)))).toArray w2) := hid (by
                    have e7 : Srt.order Rl.rank (x1 ++ y1) = x1 ++ y1 := Srt.order_self Rl.rank _ (by rw [e8]; simpa using hf3.out)
                    rw [e7, List.append_assoc]
                    exact S2.out)
                  obtain ⟨w3, rfl⟩ : ∃ w3, w3 = w2 := ⟨_, rfl⟩
                  clear S2
                  have HC3 := hid (HREC.out mid t b (A ++ Srt.order Rl.rank (x1 ++ y1)) x2 y2 B w3 (by omega) (by rw [List.length_append, Srt.order_length, List.length_append]; omega) (by omega) (by omega) (by omega) (by omega) (by omega) hf2.out hf4.out (by have := S3.out; simpa only [List.append_assoc] using this))
                  go_wp2_with fail
                  refine HC3.out.mono ?_
                  rintro e w4 ⟨rfl, hs4⟩
                  have S4 : Hid (SWK Rl.enc kc w0 blk off (A ++ (Srt.order Rl.rank (x1 ++ y1) ++ (Srt.order Rl.rank (x2 ++ y2) ++ B))).toArray w4) := hid (by simpa only [List.append_assoc] using hs4)
                  clear hs4 HC3 S3
                  go_wp2_with fail
                  go_end0
                  refine ⟨rfl, ?_⟩
                  have := S4.out
                  rw [← List.append_assoc (Srt.order Rl.rank (x1 ++ y1)), hcut.out] at this
                  exact this)
            · skip
              first
              | (exfalso; omega)
              | (
                  have g0 : decide ((s : Int) < (m : Int)) = true := decide_eq_true (by omega)
                  have g1 : decide ((m : Int) < (t : Int)) = true := decide_eq_true (by omega)
                  have g2 : decide ((a : Int) < (s : Int)) = false := decide_eq_false (by omega)
                  have g3 : decide ((s : Int) < (mid : Int)) = true := decide_eq_true (by omega)
                  have g4 : decide ((mid : Int) < (t : Int)) = true := decide_eq_true (by omega)
                  have g5 : decide ((t : Int) < (b : Int)) = false := decide_eq_false (by omega)
                  have HC1 := hid (HROT.out s m t (A ++ x1) x2 y1 (y2 ++ B) w1 (by simp only [List.length_append]; omega) (by rw [List.length_append]; omega) (by omega) (by omega) (by omega) (by omega) (by have := S1.out; simpa only [List.append_assoc] using this))
                  go_wp2_with fail
                  refine HC1.out.mono ?_
                  rintro e w2 ⟨rfl, hs2⟩
                  have S2 : Hid (SWK Rl.enc kc w0 blk off (A ++ (x1 ++ (y1 ++ (x2 ++ (y2 ++ B))))).toArray w2) := hid (by simpa only [List.append_assoc] using hs2)
                  clear hs2 HC1 S1
                  have e8 : x1 = [] := List.length_eq_zero_iff.1 (by omega)
                  have S3 : Hid (SWK Rl.enc kc w0 blk off (A ++ (Srt.order Rl.rank (x1 ++ y1) ++ (x2 ++ (y2 ++ B)))).toArray w2) := hid (by
                    have e7 : Srt.order Rl.rank (x1 ++ y1) = x1 ++ y1 := Srt.order_self Rl.rank _ (by rw [e8]; simpa using hf3.out)
                    rw [e7, List.append_assoc]
                    exact S2.out)
                  obtain ⟨w3, rfl⟩ : ∃ w3, w3 = w2 := ⟨_, rfl⟩
                  clear S2
                  have e6 : y2 = [] := List.length_eq_zero_iff.1 (by omega)
                  have S4 : Hid (SWK Rl.enc kc w0 blk off (A ++ (Srt.order Rl.rank (x1 ++ y1) ++ (Srt.order Rl.rank (x2 ++ y2) ++ B))).toArray w3) := hid (by
                    have e7 : Srt.order Rl.rank (x2 ++ y2) = x2 ++ y2 := Srt.order_self Rl.rank _ (by rw [e6]; simpa using hf2.out)
                    rw [e7, List.append_assoc]
                    exact S3.out)
                  obtain ⟨w4, rfl⟩ : ∃ w4, w4 = w3 := ⟨_, rfl⟩
                  clear S3
                  go_wp2_with fail
                  go_end0
                  refine ⟨rfl, ?_⟩
                  have := S4.out
                  rw [← List.append_assoc (Srt.order Rl.rank (x1 ++ y1)), hcut.out] at this
                  exact this)
        · skip
          first
          | (exfalso; omega)
          | (
              have g0 : decide ((s : Int) < (m : Int)) = true := decide_eq_true (by omega)
              have g1 : decide ((m : Int) < (t : Int)) = false := decide_eq_false (by omega)
              have g2 : decide ((a : Int) < (s : Int)) = true := decide_eq_true (by omega)
              have g3 : decide ((s : Int) < (mid : Int)) = false := decide_eq_false (by omega)
              have g4 : decide ((mid : Int) < (t : Int)) = true := decide_eq_true (by omega)
              have g5 : decide ((t : Int) < (b : Int)) = true := decide_eq_true (by omega)
              have e9 : y1 = [] := List.length_eq_zero_iff.1 (by omega)
              have S2 : Hid (SWK Rl.enc kc w0 blk off (A ++ (x1 ++ (y1 ++ (x2 ++ (y2 ++ B))))).toArray w1) := hid (by have := S1.out; rw [e9] at this ⊢; simpa using this)
              obtain ⟨w2, rfl⟩ : ∃ w2, w2 = w1 := ⟨_, rfl⟩
              clear S1
              have e8 : y1 = [] := List.length_eq_zero_iff.1 (by omega)
              have S3 : Hid (SWK Rl.enc kc w0 blk off (A ++ (Srt.order Rl.rank (x1 ++ y1) ++ (x2 ++ (y2 ++ B)))).toArray w2) := hid (by
                have e7 : Srt.order Rl.rank (x1 ++ y1) = x1 ++ y1 := Srt.order_self Rl.rank _ (by rw [e8]; simpa using hf1.out)
                rw [e7, List.append_assoc]
                exact S2.out)
              obtain ⟨w3, rfl⟩ : ∃ w3, w3 = w2 := ⟨_, rfl⟩
              clear S2
              have HC3 := hid (HREC.out mid t b (A ++ Srt.order Rl.rank (x1 ++ y1)) x2 y2 B w3 (by omega) (by rw [List.length_append, Srt.order_length, List.length_append]; omega) (by omega) (by omega) (by omega) (by omega) (by omega) hf2.out hf4.out (by have := S3.out; simpa only [List.append_assoc] using this))
              go_wp2_with fail
              refine HC3.out.mono ?_
              rintro e w4 ⟨rfl, hs4⟩
              have S4 : Hid (SWK Rl.enc kc w0 blk off (A ++ (Srt.order Rl.rank (x1 ++ y1) ++ (Srt.order Rl.rank (x2 ++ y2) ++ B))).toArray w4) := hid (by simpa only [List.append_assoc] using hs4)
              clear hs4 HC3 S3
              go_wp2_with fail
              go_end0
              refine ⟨rfl, ?_⟩
              have := S4.out
              rw [← List.append_assoc (Srt.order Rl.rank (x1 ++ y1)), hcut.out] at this
              exact this)
      · by_cases q2 : s < mid
        · skip
          first
          | (exfalso; omega)
          | (
              have g0 : decide ((s : Int) < (m : Int)) = false := decide_eq_false (by omega)
              have g1 : decide ((m : Int) < (t : Int)) = true := decide_eq_true (by omega)
              have g2 : decide ((a : Int) < (s : Int)) = true := decide_eq_true (by omega)
              have g3 : decide ((s : Int) < (mid : Int)) = true := decide_eq_true (by omega)
              have g4 : decide ((mid : Int) < (t : Int)) = false := decide_eq_false (by omega)
              have g5 : decide ((t : Int) < (b : Int)) = true := decide_eq_true (by omega)
              have e9 : x2 = [] := List.length_eq_zero_iff.1 (by omega)
              have S2 : Hid (SWK Rl.enc kc w0 blk off (A ++ (x1 ++ (y1 ++ (x2 ++ (y2 ++ B))))).toArray w1) := hid (by have := S1.out; rw [e9] at this ⊢; simpa using this)
              obtain ⟨w2, rfl⟩ : ∃ w2, w2 = w1 := ⟨_, rfl⟩
              clear S1
              have HC2 := hid (HREC.out a s mid A x1 y1 (x2 ++ (y2 ++ B)) w2 (by omega) hal (by omega) (by omega) (by simp only [List.length_append]; omega) (by omega) (by omega) hf1.out hf3.out S2.out)
              go_wp2_with fail
              refine HC2.out.mono ?_
              rintro e w3 ⟨rfl, hs3⟩
              have S3 := hid hs3
              clear hs3 HC2 S2
              have e6 : x2 = [] := List.length_eq_zero_iff.1 (by omega)
              have S4 : Hid (SWK Rl.enc kc w0 blk off (A ++ (Srt.order Rl.rank (x1 ++ y1) ++ (Srt.order Rl.rank (x2 ++ y2) ++ B))).toArray w3) := hid (by
                have e7 : Srt.order Rl.rank (x2 ++ y2) = x2 ++ y2 := Srt.order_self Rl.rank _ (by rw [e6]; simpa using hf4.out)
                rw [e7, List.append_assoc]
                exact S3.out)
              obtain ⟨w4, rfl⟩ : ∃ w4, w4 = w3 := ⟨_, rfl⟩
              clear S3
              go_wp2_with fail
              go_end0
              refine ⟨rfl, ?_⟩
              have := S4.out
              rw [← List.append_assoc (Srt.order Rl.rank (x1 ++ y1)), hcut.out] at this
              exact this)
        · skip
          first
          | (exfalso; omega)
          | (
              have g0 : decide ((s : Int) < (m : Int)) = false := decide_eq_false (by omega)
              have g1 : decide ((m : Int) < (t : Int)) = false := decide_eq_false (by omega)
              have g2 : decide ((a : Int) < (s : Int)) = true := decide_eq_true (by omega)
              have g3 : decide ((s : Int) < (mid : Int)) = false := decide_eq_false (by omega)
              have g4 : decide ((mid : Int) < (t : Int)) = false := decide_eq_false (by omega)
              have g5 : decide ((t : Int) < (b : Int)) = true := decide_eq_true (by omega)
              have e9 : x2 = [] := List.length_eq_zero_iff.1 (by omega)
              have S2 : Hid (SWK Rl.enc kc w0 blk off (A ++ (x1 ++ (y1 ++ (x2 ++ (y2 ++ B))))).toArray w1) := hid (by have := S1.out; rw [e9] at this ⊢; simpa using this)
              obtain ⟨w2, rfl⟩ : ∃ w2, w2 = w1 := ⟨_, rfl⟩
              clear S1
              have e8 : y1 = [] := List.length_eq_zero_iff.1 (by omega)
              have S3 : Hid (SWK Rl.enc kc w0 blk off (A ++ (Srt.order Rl.rank (x1 ++ y1) ++ (x2 ++ (y2 ++ B)))).toArray w2) := hid (by
                have e7 : Srt.order Rl.rank (x1 ++ y1) = x1 ++ y1 := Srt.order_self Rl.rank _ (by rw [e8]; simpa using hf1.out)
                rw [e7, List.append_assoc]
                exact S2.out)
              obtain ⟨w3, rfl⟩ : ∃ w3, w3 = w2 := ⟨_, rfl⟩
              clear S2
              have e6 : x2 = [] := List.length_eq_zero_iff.1 (by omega)
              have S4 : Hid (SWK Rl.enc kc w0 blk off (A ++ (Srt.order Rl.rank (x1 ++ y1) ++ (Srt.order Rl.rank (x2 ++ y2) ++ B))).toArray w3) := hid (by
                have e7 : Srt.order Rl.rank (x2 ++ y2) = x2 ++ y2 := Srt.order_self Rl.rank _ (by rw [e6]; simpa using hf4.out)
                rw [e7, List.append_assoc]
                exact S3.out)
              obtain ⟨w4, rfl⟩ : ∃ w4, w4 = w3 := ⟨_, rfl⟩
              clear S3
              go_wp2_with fail
              go_end0
              refine ⟨rfl, ?_⟩
              have := S4.out
              rw [← List.append_assoc (Srt.order Rl.rank (x1 ++ y1)), hcut.out] at this
              exact this)
end C12
end Go.Proofs.Ytmmmaldpalhjeaa
namespace Go.Proofs.Ytmmmaldpalhjeaa
open Go.RowKit Go.Peri Go.Shelf Go.Lib Go.Sort
namespace C12
theorem egRot : ∀ args w, (callFunc 234 args).run Try.prog w = .ok (.enter 234 args) w := enters_of Try.func234 (by kernel_rfl) rfl
theorem egSym : ∀ args w, (callFunc 194 args).run Try.prog w = .ok (.enter 194 args) w := enters_of Try.func194 (by kernel_rfl) rfl
set_option maxRecDepth 100000 in
/-- symMerge: two rows that fall, one behind the other, merged. -/
theorem symMerge_any (blk off cap N : Nat) (d0 : Array Rl) (w0 : World) (R : RowK Rl.enc 10 w0 blk off d0) (hN : d0.size = N) (hsz : N < 4611686018427387904) : ∀ (n a m b : Nat) (A x y B : List Rl) (w : World), x.length + y.length ≤ n → A.length = a → a + x.length = m → m + y.length = b → b + B.length = N → 0 < x.length → 0 < y.length → Srt.Falls Rl.rank x → Srt.Falls Rl.rank y → SWK Rl.enc 10 w0 blk off (A ++ (x ++ (y ++ B))).toArray w → Calls Try.prog 194 #[.slice (some ⟨blk, off, none⟩) N cap, .int .i64 a, .int .i64 m, .int .i64 b, .func (.func 110) #[] #[]] w fun e w' => e = .returned (.tuple #[]) ∧ SWK Rl.enc 10 w0 blk off (A ++ (Srt.order Rl.rank (x ++ y) ++ B)).toArray w'
  | 0, a, m, b, A, x, y, B, w, hn, _, _, _, _, hx, _, _, _, _ => by omega
  | n + 1, a, m, b, A, x, y, B, w, hn, ha, hm, hb, hB, hx, hy, hfx, hfy, S => by
    have hcmp := fun (w0 : World) => cmp_sw blk off N w0
    by_cases h1 : x.length = 1
    · obtain ⟨u, rfl⟩ := List.length_eq_one_iff.1 h1
      exact symLeft_list Try.func194 10 layR layU eg110 blk off cap N a m b d0 w0 w (hcmp w0) R hN A y B u ha (by simpa using hm) hb hB hsz hfy S
    by_cases h2 : y.length = 1
    · obtain ⟨v, rfl⟩ := List.length_eq_one_iff.1 h2
      exact symRight_list Try.func194 10 layR layU eg110 blk off cap N a m b d0 w0 w (hcmp w0) R hN A x B v ha (by omega) hm (by simpa using hb) hB hsz hfx S
    have hrot : ∀ (a m b : Nat) (A U V B : List Rl) (w : World), A.length + (U.length + (V.length + B.length)) = N → A.length = a → a + U.length = m → m + V.length = b → 0 < U.length → 0 < V.length → SWK Rl.enc 10 w0 blk off (A ++ (U ++ (V ++ B))).toArray w → Calls Try.prog 234 #[.slice (some ⟨blk, off, none⟩) N cap, .int .i64 a, .int .i64 m, .int .i64 b, .func (.func 110) #[] #[]] w fun e w' => e = .returned (.tuple #[]) ∧ SWK Rl.enc 10 w0 blk off (A ++ (V ++ (U ++ B))).toArray w' := fun a m b A U V B w g1 g2 g3 g4 g5 g6 g7 => rotate_any blk off cap N a m b d0 w0 w R A U V B hN.symm g1 g2 g3 g4 g5 g6 hsz g7
    have hrec : ∀ (a m b : Nat) (A X Y B : List Rl) (w : World), X.length + Y.length < x.length + y.length → A.length = a → a + X.length = m → m + Y.length = b → b + B.length = N → 0 < X.length → 0 < Y.length → Srt.Falls Rl.rank X → Srt.Falls Rl.rank Y → SWK Rl.enc 10 w0 blk off (A ++ (X ++ (Y ++ B))).toArray w → Calls Try.prog 194 #[.slice (some ⟨blk, off, none⟩) N cap, .int .i64 a, .int .i64 m, .int .i64 b, .func (.func 110) #[] #[]] w fun e w' => e = .returned (.tuple #[]) ∧ SWK Rl.enc 10 w0 blk off (A ++ (Srt.order Rl.rank (X ++ Y) ++ B)).toArray w' := fun a m b A X Y B w g0 g1 g2 g3 g4 g5 g6 g7 g8 g9 => symMerge_any blk off cap N d0 w0 R hN hsz n a m b A X Y B w (by omega) g1 g2 g3 g4 g5 g6 g7 g8 g9
    by_cases hc : (a + b) / 2 < m
    · exact symMidA_gen Try.func194 10 layR layU eg110 egRot egSym blk off cap N a m b d0 w0 w (hcmp w0) R hN A x y B ha hm hb hB (by omega) (by omega) hfx hfy hsz hrot hrec _ rfl hc S
    · exact symMidB_gen Try.func194 10 layR layU eg110 egRot egSym blk off cap N a m b d0 w0 w (hcmp w0) R hN A x y B ha hm hb hB (by omega) (by omega) hfx hfy hsz hrot hrec _ rfl (by omega) S
end C12
end Go.Proofs.Ytmmmaldpalhjeaa
namespace Go.Peri
namespace Srt
section
variable {α : Type} [Inhabited α] (f : α → Int)
/-- The insertion sort of a part of a row. -/
theorem insertion_mid (lt : α → α → Bool) (hlt : ∀ x y, lt x y = decide (f y < f x)) (A x B : List α) (a b : Nat) (ha : A.length = a) (hb : a + x.length = b) : Sort.insertionSort lt (A ++ (x ++ B)).toArray a b = (A ++ (order f x ++ B)).toArray := by
  have hsz0 : (A ++ (x ++ B)).toArray.size = b + B.length := by simp only [List.size_toArray, List.length_append]; omega
  obtain ⟨⟨hsz, hout, _⟩, hs⟩ := Sort.insertionSort_holds (swo f lt hlt) (A ++ (x ++ B)).toArray a b (by omega) (by omega)
  have hfil : ∀ k, (Sort.insertionSort lt (A ++ (x ++ B)).toArray a b).toList.filter (fun y => decide (f y = k)) = (A ++ (x ++ B)).filter (fun y => decide (f y = k)) := fun k =>
    insOuter_filter f lt hlt k a b _ (a + 1) (A ++ (x ++ B)).toArray rfl (by omega)
  generalize Sort.insertionSort lt (A ++ (x ++ B)).toArray a b = d at hsz hout hs hfil
  have hdl : d.toList.length = b + B.length := by rw [Array.length_toList, hsz, hsz0]
  have hget : ∀ i, i < a ∨ b ≤ i → ∀ h : i < d.toList.length, d.toList[i] = (A ++ (x ++ B))[i]'(by simp only [List.length_append]; omega) := by
    intro i hi h
    have := hout i hi
    rw [getElem!_pos d i (by simpa using h), getElem!_pos _ i (by rw [hsz0]; omega)] at this
    exact this
  have hA : d.toList.take a = A := by
    refine List.ext_getElem (by rw [List.length_take]; omega) fun i h1 h2 => ?_
    rw [List.getElem_take, hget i (Or.inl (by omega)) (by omega), List.getElem_append_left h2]
  have hBe : d.toList.drop b = B := by
    refine List.ext_getElem (by rw [List.length_drop]; omega) fun i h1 h2 => ?_
    rw [List.getElem_drop, hget (b + i) (Or.inr (by omega)) (by omega), List.getElem_append_right (by omega), List.getElem_append_right (by omega)]
    congr 1
    omega
  obtain ⟨z, hz⟩ : ∃ z, (d.toList.drop a).take (b - a) = z := ⟨_, rfl⟩
  have hzl : z.length = b - a := by rw [← hz, List.length_take, List.length_drop]; omega
  have hd : d.toList = A ++ (z ++ B) := by
    have e1 : d.toList.drop a = z ++ B := by
      rw [← hz, ← hBe]
      conv => lhs; rw [← List.take_append_drop (b - a) (d.toList.drop a)]
      rw [List.drop_drop, show a + (b - a) = b by omega]
    rw [← e1, ← hA]
    conv => lhs; rw [← List.take_append_drop a d.toList]
  have hzf : Falls f z := by
    refine falls_of_desc f z fun i j hi hj hij => ?_
    rcases Nat.lt_or_eq_of_le hij with h | rfl
    · have g1 : ∀ i (hi : i < z.length) (h : a + i < d.size), d[a + i] = z[i] := by
        intro i hi h
        have e : d.toList[a + i]'(by simpa using h) = z[i] := by
          simp only [hd]
          rw [List.getElem_append_right (by omega), List.getElem_append_left (by omega)]
          congr 1
          omega
        exact e
      have hdz : d.size = b + B.length := by simpa using hdl
      have := hs (a + i) (a + j) (by omega) (by omega) (by omega)
      rw [hlt, decide_eq_false_iff_not, getElem!_pos d (a + i) (by omega), getElem!_pos d (a + j) (by omega), g1 i hi, g1 j hj] at this
      omega
    · exact Int.le_refl _
  have hze : z = order f x := by
    refine eq_of_filter f z _ hzf (falls_order f x) fun k => ?_
    have h := hfil k
    rw [hd] at h
    simp only [List.filter_append] at h
    have h2 := List.append_cancel_left h
    rw [order_filter]
    exact List.append_cancel_right h2
  rw [← hze]
  apply Array.ext'
  exact hd
end
end Srt
end Go.Peri
namespace Go.Proofs.Ytmmmaldpalhjeaa
open Go.RowKit Go.Peri Go.Shelf Go.Lib Go.Sort
namespace C12
theorem ins_sw (blk off cap N a b : Nat) (d0 : Array Rl) (w0 w : World) (R : RowK Rl.enc 10 w0 blk off d0) (hN : d0.size = N) (A x B : List Rl) (ha : A.length = a) (hb : a + x.length = b) (hB : b + B.length = N) (hsz : N < 4611686018427387904) (S : SWK Rl.enc 10 w0 blk off (A ++ (x ++ B)).toArray w) :
    Calls Try.prog 193 #[.slice (some ⟨blk, off, none⟩) N cap, .int .i64 a, .int .i64 b, .func (.func 110) #[] #[]] w fun e w' => e = .returned (.tuple #[]) ∧ SWK Rl.enc 10 w0 blk off (A ++ (Srt.order Rl.rank x ++ B)).toArray w' := by
  have hs : (A ++ (x ++ B)).toArray.size = N := by simp only [List.size_toArray, List.length_append]; omega
  have hH := S.holds R.hblk R.hH (hs.trans hN.symm)
  have h := insertion_any blk off cap a b _ w hH (S.lt R.hblk) (by omega) (by rw [hs]; omega) (by rw [hs]; exact hsz)
  rw [hs] at h
  refine h.mono ?_
  rintro e w' ⟨rfl, n, os, rfl⟩
  refine ⟨rfl, ?_⟩
  rw [Srt.insertion_mid Rl.rank (ltOf cf) cf_lt A x B a b ha hb]
  exact S.on R.hblk n _ os (by simp only [List.size_toArray, List.length_append, Srt.order_length])
end C12
end Go.Proofs.Ytmmmaldpalhjeaa
namespace Go.Peri
namespace Srt
theorem order_two {α : Type} (f : α → Int) (x y : List α) : order f (order f x ++ order f y) = order f (x ++ y) := by
  refine eq_of_filter f _ _ (falls_order f _) (falls_order f _) fun k => ?_
  rw [order_filter, order_filter, List.filter_append, List.filter_append, order_filter, order_filter]
end Srt
end Go.Peri
namespace Go.Proofs.Ytmmmaldpalhjeaa
open Go.RowKit Go.Peri Go.Shelf Go.Lib Go.Sort
namespace C12
set_option maxRecDepth 100000 in
set_option maxHeartbeats 4000000 in
theorem stable_few (blk off cap n : Nat) (l : List Rl) (w0 : World) (R : RowK Rl.enc 10 w0 blk off l.toArray) (hn : l.length = n) (hl : n < 20) :
    Calls Try.prog 160 #[.slice (some ⟨blk, off, none⟩) n cap, .int .i64 n, .func (.func 110) #[] #[]] w0 fun e w' =>
      e = .returned (.tuple #[]) ∧ SWK Rl.enc 10 w0 blk off (Srt.order Rl.rank l).toArray w' := by
  have HC := hid (ins_sw blk off cap n 0 n l.toArray w0 w0 R hn [] l [] rfl (by omega) rfl (by omega) (SWK.start (by simpa using R.hH)))
  clear R hn
  go_enter Try.func160, Try.ntmps160
  go_wp2_with fail
  refine wp_loop_rounds 1 ?_
  rw [rounds_succ]
  go_wp2_with fail
  refine HC.out.mono ?_
  rintro e w1 ⟨rfl, h1⟩
  have H1 := hid h1
  clear h1 HC
  go_wp2_with fail
  refine wp_loop_rounds 1 ?_
  rw [rounds_succ]
  go_wp2_with fail
  go_end0
  exact ⟨rfl, by simpa using H1.out⟩
set_option maxRecDepth 100000 in
set_option maxHeartbeats 4000000 in
theorem stable_mid (blk off cap n : Nat) (x y : List Rl) (w0 : World) (R : RowK Rl.enc 10 w0 blk off (x ++ y).toArray) (hx : x.length = 20) (hn : 20 + y.length = n) (hl : n < 40) (hl2 : 20 < n) :
    Calls Try.prog 160 #[.slice (some ⟨blk, off, none⟩) n cap, .int .i64 n, .func (.func 110) #[] #[]] w0 fun e w' =>
      e = .returned (.tuple #[]) ∧ SWK Rl.enc 10 w0 blk off (Srt.order Rl.rank (x ++ y)).toArray w' := by
  have hs : (x ++ y).toArray.size = n := by simp only [List.size_toArray, List.length_append]; omega
  have HC := hid (ins_sw blk off cap n 0 20 (x ++ y).toArray w0 w0 R hs [] x y rfl (by omega) hn (by omega) (SWK.start R.hH))
  have HD := hid (fun w h => ins_sw blk off cap n 20 n (x ++ y).toArray w0 w R hs (Srt.order Rl.rank x) y [] (by rw [Srt.order_length]; exact hx) hn rfl (by omega) h)
  have HE := hid (fun w h => symMerge_any blk off cap n (x ++ y).toArray w0 R hs (by omega) n 0 20 n [] (Srt.order Rl.rank x) (Srt.order Rl.rank y) [] w (by rw [Srt.order_length, Srt.order_length]; omega) rfl (by rw [Srt.order_length]; omega) (by rw [Srt.order_length]; exact hn) rfl (by rw [Srt.order_length]; omega) (by rw [Srt.order_length]; omega) (Srt.falls_order _ _) (Srt.falls_order _ _) h)
  clear R hs hx hn
  go_enter Try.func160, Try.ntmps160
  go_wp2_with fail
  refine wp_loop_rounds 2 ?_
  rw [rounds_succ]
  go_wp2_with fail
  refine HC.out.mono ?_
  rintro e w1 ⟨rfl, h1⟩
  have H1 := hid (HD.out w1 (by simpa using h1))
  clear h1 HC HD
  go_wp2_with fail
  rw [rounds_succ]
  go_wp2_with fail
  refine H1.out.mono ?_
  rintro e w2 ⟨rfl, h2⟩
  have H2 := hid (HE.out w2 (by simpa using h2))
  clear h2 H1 HE
  go_wp2_with fail
  refine wp_loop_rounds 2 ?_
  rw [rounds_succ]
  go_wp2_with fail
  refine wp_loop_rounds 1 ?_
  rw [rounds_succ]
  go_wp2_with fail
  refine H2.out.mono ?_
  rintro e w3 ⟨rfl, h3⟩
  have H3 := hid h3
  clear h3 H2
  go_wp2_with fail
  rw [rounds_succ]
  go_wp2_with fail
  go_end0
  have := H3.out
  rw [Srt.order_two] at this
  exact ⟨rfl, by simpa using this⟩
end C12
end Go.Proofs.Ytmmmaldpalhjeaa
namespace Go.Proofs.Ytmmmaldpalhjeaa
open Go.RowKit Go.Peri Go.Shelf Go.Lib Go.Sort
namespace C12
set_option maxRecDepth 100000 in
set_option maxHeartbeats 4000000 in
theorem stable_20 (blk off cap : Nat) (x : List Rl) (w0 : World) (R : RowK Rl.enc 10 w0 blk off x.toArray) (hx : x.length = 20) :
    Calls Try.prog 160 #[.slice (some ⟨blk, off, none⟩) 20 cap, .int .i64 20, .func (.func 110) #[] #[]] w0 fun e w' =>
      e = .returned (.tuple #[]) ∧ SWK Rl.enc 10 w0 blk off (Srt.order Rl.rank x).toArray w' := by
  have hs : x.toArray.size = 20 := by simpa using hx
  have HC := hid (ins_sw blk off cap 20 0 20 x.toArray w0 w0 R hs [] x [] rfl (by omega) rfl (by omega) (SWK.start (by simpa using R.hH)))
  have HD := hid (fun w h => ins_sw blk off cap 20 20 20 x.toArray w0 w R hs (Srt.order Rl.rank x) [] [] (by rw [Srt.order_length]; exact hx) rfl rfl (by omega) h)
  clear R hs hx
  go_enter Try.func160, Try.ntmps160
  go_wp2_with fail
  refine wp_loop_rounds 2 ?_
  rw [rounds_succ]
  go_wp2_with fail
  refine HC.out.mono ?_
  rintro e w1 ⟨rfl, h1⟩
  have H1 := hid (HD.out w1 (by simpa using h1))
  clear h1 HC HD
  go_wp2_with fail
  rw [rounds_succ]
  go_wp2_with fail
  refine H1.out.mono ?_
  rintro e w2 ⟨rfl, h2⟩
  have H2 := hid h2
  clear h2 H1
  go_wp2_with fail
  refine wp_loop_rounds 1 ?_
  rw [rounds_succ]
  go_wp2_with fail
  go_end0
  have := H2.out
  exact ⟨rfl, by simpa [Srt.order] using this⟩
set_option maxRecDepth 100000 in
set_option maxHeartbeats 4000000 in
theorem stable_40 (blk off cap : Nat) (x y : List Rl) (w0 : World) (R : RowK Rl.enc 10 w0 blk off (x ++ y).toArray) (hx : x.length = 20) (hy : y.length = 20) :
    Calls Try.prog 160 #[.slice (some ⟨blk, off, none⟩) 40 cap, .int .i64 40, .func (.func 110) #[] #[]] w0 fun e w' =>
      e = .returned (.tuple #[]) ∧ SWK Rl.enc 10 w0 blk off (Srt.order Rl.rank (x ++ y)).toArray w' := by
  have hs : (x ++ y).toArray.size = 40 := by simp only [List.size_toArray, List.length_append]; omega
  have HC := hid (ins_sw blk off cap 40 0 20 (x ++ y).toArray w0 w0 R hs [] x y rfl (by omega) (by omega) (by omega) (SWK.start R.hH))
  have HD := hid (fun w h => ins_sw blk off cap 40 20 40 (x ++ y).toArray w0 w R hs (Srt.order Rl.rank x) y [] (by rw [Srt.order_length]; exact hx) (by omega) rfl (by omega) h)
  have HD2 := hid (fun w h => ins_sw blk off cap 40 40 40 (x ++ y).toArray w0 w R hs (Srt.order Rl.rank x ++ Srt.order Rl.rank y) [] [] (by rw [List.length_append, Srt.order_length, Srt.order_length]; omega) rfl rfl (by omega) h)
  have HE := hid (fun w h => symMerge_any blk off cap 40 (x ++ y).toArray w0 R hs (by omega) 40 0 20 40 [] (Srt.order Rl.rank x) (Srt.order Rl.rank y) [] w (by rw [Srt.order_length, Srt.order_length]; omega) rfl (by rw [Srt.order_length]; omega) (by rw [Srt.order_length]; omega) rfl (by rw [Srt.order_length]; omega) (by rw [Srt.order_length]; omega) (Srt.falls_order _ _) (Srt.falls_order _ _) h)
  clear R hs hx hy
  go_enter Try.func160, Try.ntmps160
  go_wp2_with fail
  refine wp_loop_rounds 3 ?_
  rw [rounds_succ]
  go_wp2_with fail
  refine HC.out.mono ?_
  rintro e w1 ⟨rfl, h1⟩
  have H1 := hid (HD.out w1 (by simpa using h1))
  clear h1 HC HD
  go_wp2_with fail
  rw [rounds_succ]
  go_wp2_with fail
  refine H1.out.mono ?_
  rintro e w2 ⟨rfl, h2⟩
  have H2 := hid (HD2.out w2 (by simpa using h2))
  clear h2 H1 HD2
  go_wp2_with fail
  rw [rounds_succ]
  go_wp2_with fail
  refine H2.out.mono ?_
  rintro e w3 ⟨rfl, h3⟩
  have H3 := hid (HE.out w3 (by simpa [Srt.order] using h3))
  clear h3 H2 HE
  go_wp2_with fail
  refine wp_loop_rounds 2 ?_
  rw [rounds_succ]
  go_wp2_with fail
  refine wp_loop_rounds 2 ?_
  rw [rounds_succ]
  go_wp2_with fail
  refine H3.out.mono ?_
  rintro e w4 ⟨rfl, h4⟩
  have H4 := hid h4
  clear h4 H3
  go_wp2_with fail
  rw [rounds_succ]
  go_wp2_with fail
  rw [rounds_succ]
  go_wp2_with fail
  go_end0
  have := H4.out
  rw [Srt.order_two] at this
  exact ⟨rfl, by simpa using this⟩
theorem stable40_any (blk off cap n : Nat) (l : List Rl) (w0 : World) (R : RowK Rl.enc 10 w0 blk off l.toArray) (hn : l.length = n) (hl : n ≤ 40) :
    Calls Try.prog 160 #[.slice (some ⟨blk, off, none⟩) n cap, .int .i64 n, .func (.func 110) #[] #[]] w0 fun e w' =>
      e = .returned (.tuple #[]) ∧ SWK Rl.enc 10 w0 blk off (Srt.order Rl.rank l).toArray w' := by
  by_cases h1 : n < 20
  · exact stable_few blk off cap n l w0 R hn h1
  obtain ⟨x, y, rfl, hx⟩ : ∃ x y, l = x ++ y ∧ x.length = 20 := ⟨l.take 20, l.drop 20, (List.take_append_drop 20 l).symm, by rw [List.length_take]; omega⟩
  rw [List.length_append] at hn
  by_cases h2 : n = 20
  · have hy : y = [] := List.length_eq_zero_iff.1 (by omega)
    subst hy
    rw [List.append_nil] at R ⊢
    rw [h2]
    exact stable_20 blk off cap x w0 R hx
  by_cases h3 : n = 40
  · rw [h3]
    exact stable_40 blk off cap x y w0 R hx (by omega)
  · exact stable_mid blk off cap n x y w0 R hx (by omega) (by omega) (by omega)
theorem stable40_owns (base : Nat) (v : Value) (l : List Rl) (w : World) (h : w.ownsRow base 60 10 v l.length (l.flatMap Rl.enc)) (hl : l.length ≤ 40) :
    Calls Try.prog 160 #[v, .int .i64 l.length, .func (.func 110) #[] #[]] w fun e w' =>
      e = .returned (.tuple #[]) ∧ w'.ownsRow base 60 10 v l.length ((Srt.order Rl.rank l).flatMap Rl.enc) ∧ Only (blocks v) w w' := by
  by_cases h0 : l.length < 20
  · exact stable_any base v l w h h0
  · obtain ⟨g, cap, rfl, _, hg⟩ := owns_at h (by omega)
    have hH := holdsK_of_owns Rl.enc_length h
    refine (stable40_any g 0 cap l.length l w ⟨Rl.enc_length, fun x v hv => Rl.one [x] v (by simpa using hv), hH, hg⟩ rfl hl).mono ?_
    rintro e w' ⟨rfl, m, os, rfl⟩
    have := owns_sorted Rl.enc_length h (Srt.order Rl.rank l).toArray (by simp [Srt.order_length]) m os
    exact ⟨rfl, this.1, this.2⟩
theorem sort40_any (base : Nat) (v : Value) (l : List Rl) (w : World) (h : w.ownsRow base 60 10 v l.length (l.flatMap Rl.enc)) (hl : l.length ≤ 40) :
    Calls Try.prog 109 #[v, .func (.func 110) #[] #[]] w fun e w' =>
      e = .returned (.tuple #[]) ∧ w'.ownsRow base 60 10 v l.length ((Srt.order Rl.rank l).flatMap Rl.enc) ∧ Only (blocks v) w w' := by
  have HC := hid (stable40_owns base v l w h hl)
  obtain ⟨a, cap, rfl⟩ := owns_form h
  clear h
  go_enter Try.func109, Try.ntmps109
  go_wp2_with fail
  refine HC.out.mono ?_
  rintro e w' ⟨rfl, h1, h2⟩
  have H1 := hid h1
  have H2 := hid h2
  clear h1 h2
  go_wp2_with fail
  go_end0
  exact ⟨rfl, H1.out, H2.out⟩
set_option maxRecDepth 100000 in
theorem order40_any {p : Nat → Prop} (v : Value) (l : List Rl) (W : World) (h : RowsOf p Rl.enc 10 W v l) (hp : ∀ b, p b → b < W.heap.size) (hl : l.length ≤ 40) (ha : ∀ x ∈ l, x.At (· < W.heap.size) W) (hps : ∀ x ∈ l, x.preds.length ≤ 1000000) :
    Calls Try.prog 52 #[v] W (Ret (Ordered W l)) := by
  have HC := hid (copied_any v l W h hp (by omega) ha hps)
  obtain ⟨a, cap, rfl⟩ := h.form
  clear h hp ha hps
  go_enter Try.func52, Try.ntmps52
  go_wp2_with fail
  refine HC.out.mono ?_
  rintro e w1 ⟨v1, rfl, l1, hc1, hb1, hown, hat⟩
  have hlen : l1.length = l.length := by
    have := congrArg List.length hc1
    simpa using this
  obtain ⟨a1, cap1, rfl⟩ := owns_form hown
  have HS := hid (sort40_any W.heap.size (.slice a1 l.length cap1) l1 w1 (by rw [hlen]; exact hown) (by omega))
  have HC1 := hid hc1
  have HB1 := hid hb1
  have HAT := hid hat
  have HOW := hid hown
  have HLEN := hid hlen
  clear hown hc1 hb1 hat HC
  go_wp2_with fail
  refine HS.out.mono ?_
  rintro e w2 ⟨rfl, h1, h2⟩
  have HR : Hid (Ordered W l (.slice a1 l.length cap1) w2) := by
    refine ⟨Srt.order Rl.rank l1, order_core HC1.out, HB1.out.trans (h2.below HB1.out.size (fun k hk => (owns_bd HOW.out k hk).1)), ?_, fun x hx => ?_⟩
    · rw [HLEN.out] at h1; exact h1
    · have hx1 := (Srt.order_mem Rl.rank x l1).1 hx
      exact ((HAT.out x hx1).only h2 (fun b hb => hb.2)).imp (fun b hb => ⟨hb.1, Nat.lt_of_lt_of_le hb.2.1 h2.size, hb.2.2⟩)
  clear h1 h2
  go_wp2_with fail
  go_ret
  exact ⟨_, rfl, HR.out⟩
end C12
end Go.Proofs.Ytmmmaldpalhjeaa
namespace Go.Proofs.Ytmmmaldpalhjeaa
open Go.RowKit Go.Peri
namespace C12
theorem order_take (l : List Rl) (k : Nat) (h : k < l.length) : Srt.order Rl.rank (l.take (k + 1)) = Srt.ins Rl.rank l[k] (Srt.order Rl.rank (l.take k)) := by
  rw [List.take_succ_eq_append_getElem h, Srt.order_snoc]
/-- The rules by their rank, in a row of their own. -/
def ROrd (W : World) (l : List Rl) (v : Value) (w' : World) : Prop := Below W.heap.size W w' ∧ w'.ownsRow W.heap.size 60 10 v l.length ((Srt.order Rl.rank l).flatMap Rl.enc)
theorem cut_low {w w2 : World} {p : Nat → Prop} {a : Option Addr} {co k : Nat} {out : List Rl} (hol : out.length = k) (h : RowsOf p Rl.enc 10 w (.slice a k co) out) (j : Nat) (hj : j ≤ k) (hb : Below w.heap.size w w2) (hp : ∀ b, p b → b < w.heap.size) : Cellz p 10 w2 (.slice a j co) j ((out.take j).flatMap Rl.enc) := by
  have := ((h.takeN j hj).below hb hp).cellz Rl.enc_length
  rwa [List.length_take, hol, Nat.min_eq_left hj] at this
theorem cut_high {w w2 : World} {p : Nat → Prop} {g co k : Nat} {out : List Rl} (hol : out.length = k) (h : RowsOf p Rl.enc 10 w (.slice (some ⟨g, 0, none⟩) k co) out) (j : Nat) (hj : j ≤ k) (hb : Below w.heap.size w w2) (hp : ∀ b, p b → b < w.heap.size) : Cellz p 10 w2 (.slice (some ⟨g, j * 10, none⟩) (k - j) (co - j)) (k - j) ((out.drop j).flatMap Rl.enc) := by
  have := ((h.dropN j hj).below hb hp).cellz Rl.enc_length
  rw [List.length_drop, hol, Nat.zero_add] at this
  exact this
theorem cut_none (p : Nat → Prop) (w : World) (a : Option Addr) : Cellz p 10 w (.slice a 0 0) 0 [] := ⟨rfl, a, 0, rfl, Nat.le_refl _, Nat.zero_le _, fun _ => rfl, .inl rfl⟩
set_option maxRecDepth 100000 in
set_option maxHeartbeats 4000000 in
theorem rorder_any {p : Nat → Prop} (v : Value) (l : List Rl) (W : World) (h : RowsOf p Rl.enc 10 W v l) (hp : ∀ b, p b → b < W.heap.size) (hl : l.length ≤ 1000000) :
    Calls Try.prog 53 #[v] W (Ret (ROrd W l)) := by
  obtain ⟨a, cap, rfl, hlc, hcm, _, hcell⟩ := h
  have HC := hid hcell
  have HP := hid hp
  clear hcell hp
  go_enter Try.func53, Try.ntmps53
  go_wp2_with fail
  go_loopw [3, 4] (fun o i wr => ∃ k : Nat, k ≤ l.length ∧ i = .int .i64 k ∧ Below W.heap.size W wr ∧ wr.ownsRow W.heap.size 60 10 o k ((Srt.order Rl.rank (l.take k)).flatMap Rl.enc)) (fun _ i _ => l.length - (intOf i).toNat)
  case atStart => exact ⟨0, Nat.zero_le _, rfl, Below.refl _ _, World.ownsRow_nil _ _ _ _⟩
  case round =>
    obtain ⟨k, hk, rfl, hb, hown⟩ := hrel
    have HB := hid hb
    have hws := HB.out.size
    obtain ⟨wo, rfl⟩ : ∃ wo : World, wo = wr := ⟨_, rfl⟩
    by_cases hlt : k < l.length
    · obtain ⟨b, off, rfl, hpb, hc⟩ := HC.out.resolve_left (by intro e; rw [e] at hlt; simp at hlt)
      have hbl := HP.out b hpb
      have HCW : Hid (∀ w', Below W.heap.size W w' → ∀ j u, l[k].enc[j]? = some u → w'.cell? ⟨b, off + k * 10 + j, none⟩ = some u) := hid (fun w' hw' j u hu => (hw'.cell (p := ⟨b, off + k * 10 + j, none⟩) hbl).trans (hc k hlt j u hu))
      have HT := hid (order_take l k hlt)
      have hol : (Srt.order Rl.rank (l.take k)).length = k := by rw [Srt.order_length, List.length_take]; omega
      have hde := Srt.order_desc Rl.rank (l.take k)
      have hbo : b < wo.heap.size := by omega
      generalize l[k] = x at HCW HT
      generalize Srt.order Rl.rank (l.take k) = out at hown HT hol hde
      obtain ⟨ao, co, rfl⟩ := owns_form hown
      have hrow : RowsOf (fun b => W.heap.size ≤ b ∧ b < wo.heap.size) Rl.enc 10 wo (.slice ao k co) out := RowsOf.of_owns Rl.enc_length (by rw [hol]; exact hown)
      have HROW := hid hrow
      have HDE := hid hde
      have HOL := hid hol
      have hko : k ≤ co := by
        obtain ⟨a', cap', e, h2, _⟩ := hrow
        cases e
        rw [← hol]; exact h2
      have hform : (ao = none ∧ co = 0 ∧ k = 0) ∨ ∃ g, ao = some ⟨g, 0, none⟩ ∧ g < wo.heap.size := by
        rcases hown.2 with ⟨e, h0⟩ | ⟨g, cap, cur, hv, _, hg, _⟩
        · cases e; exact .inl ⟨rfl, rfl, h0⟩
        · cases hv; exact .inr ⟨g, rfl, (Array.getElem?_eq_some_iff.1 hg).1⟩
      clear hc hb hown hrow hde hol
      go_wp2_with fail
      go_loopw [5] (fun i w' => ∃ j : Nat, j ≤ k ∧ i = .int .i64 j ∧ Below wo.heap.size wo w' ∧ Hid (∀ y ∈ out.take j, x.rank ≤ y.rank)) (fun i _ => k - (intOf i).toNat)
      case atStart => exact ⟨0, Nat.zero_le _, rfl, Below.refl _ _, hid (fun y hy => by simp at hy)⟩
      case round =>
        obtain ⟨j, hj, rfl, hb, hge⟩ := hrel
        have HB1 := hid hb
        have hws1 := hb.size
        clear hb
        obtain ⟨d0, -⟩ := Rl.cells (HCW.out wr (HB.out.trans (HB1.out.mono HB.out.size)))
        have hbr : b < wr.heap.size := by omega
        have i1 : (0 : Int) ≤ (k : Int) := by omega
        have i2 : (k : Int) < (l.length : Int) := by omega
        by_cases hjk : j < k
        · obtain ⟨g, rfl, hg⟩ := hform.resolve_left (by omega)
          have hjo : j < out.length := by rw [HOL.out]; exact hjk
          obtain ⟨f0, -⟩ := Rl.cells (y := out[j]) (w := wr) (b := g) (o := j * 10) (fun i u hu => by
            obtain ⟨a', cap', e, _, _, _, h5⟩ := HROW.out
            cases e
            rcases h5 with h5 | ⟨b', off', h1, _, h3⟩
            · rw [h5] at hjo; simp at hjo
            · cases h1
              have := h3 j hjo i u hu
              rw [Nat.zero_add] at this
              exact (HB1.out.cell (p := ⟨g, j * 10 + i, none⟩) hg).trans this)
          have hgr : g < wr.heap.size := by omega
          have i3 : (0 : Int) ≤ (j : Int) := by omega
          have i4 : (j : Int) < (k : Int) := by omega
          have i5 : (j : Int) ≤ (k : Int) := by omega
          have i6 : (k : Int) ≤ (co : Int) := by omega
          have i7 : (j : Int) ≤ (co : Int) := by omega
          have HSN : Hid (x.rank ≤ out[j].rank → ∀ y ∈ out.take (j + 1), x.rank ≤ y.rank) := hid (fun h y hy => by
            rw [List.take_succ_eq_append_getElem hjo] at hy
            rcases List.mem_append.1 hy with hy | hy
            · exact hge.out y hy
            · simp at hy; rw [hy]; exact h)
          have HSL : Hid (out[j].rank < x.rank → Srt.ins Rl.rank x out = out.take j ++ x :: out.drop j) := hid (fun h => Srt.ins_at Rl.rank x out j (by omega) (Srt.desc_drop Rl.rank HDE.out hjo h) hge.out)
          generalize out[j].rank = rj at f0 HSN HSL
          by_cases hr : x.rank ≤ rj
          · have HN := hid (HSN.out hr)
            clear HSN HSL
            go_wp2_with fail
            refine wp_region_bw (by kernel_rfl) (by kernel_rfl) ?_
            repeat (go_big_quiet_step (fail))
            refine wpQuiet_nil ?_
            rintro w2 ⟨⟨_, hb2⟩, rfl⟩
            have HB2 : Hid (Below wo.heap.size wo w2) := HB1.out.trans (hb2.mono HB1.out.size)
            clear hb2
            go_wp2_with fail
            go_roundw
            case rel => exact ⟨j + 1, by omega, by go_num, HB2.out, HN⟩
            case measure => simp [intOf]; omega
          · have HIN := hid (HSL.out (by omega))
            have k5 : ¬ co = j := by omega
            clear HSN HSL
            go_wp2_with fail
            refine wp_region_bw (by kernel_rfl) (by kernel_rfl) ?_
            repeat (go_big_quiet_step (fail))
            refine wpQuiet_nil ?_
            rintro w2 ⟨⟨_, hb2⟩, rfl⟩
            have HB2 : Hid (Below wo.heap.size wo w2) := HB1.out.trans (hb2.mono HB1.out.size)
            clear hb2
            have hs2 := HB2.out.size
            have HWW : Hid (Below W.heap.size W w2) := HB.out.trans (HB2.out.mono HB.out.size)
            have HTK : Hid (Cellz (fun b => W.heap.size ≤ b ∧ b < wo.heap.size) 10 w2 (.slice (some ⟨g, 0, none⟩) j co) j ((out.take j).flatMap Rl.enc)) := hid (cut_low HOL.out HROW.out j (by omega) HB2.out (fun _ h => h.2))
            have HDR : Hid (∀ w4, Below w2.heap.size w2 w4 → Cellz (fun b => W.heap.size ≤ b ∧ b < wo.heap.size) 10 w4 (.slice (some ⟨g, j * 10, none⟩) (k - j) (co - j)) (k - j) ((out.drop j).flatMap Rl.enc)) := hid (fun w4 hw4 => cut_high HOL.out HROW.out j (by omega) (HB2.out.trans (hw4.mono (by omega))) (fun _ h => h.2))
            clear hbr d0
            go_wp2_with (at_builtin; refine wpList_pushCells elemR rfl _ _ rfl w2.heap.size _ 0 [] rfl (World.ownsRow_nil _ _ _ _) rfl HTK.out (Rl.one _) ?_ ?_ ?_ ?_)
            · unfold maxLen; omega
            · omega
            · exact Nat.le_refl _
            intro v3 w3 hown3 hb3
            have HW3 : Hid (Below W.heap.size W w3) := HWW.out.trans (hb3.mono (by omega))
            have HB3 := hid hb3
            have hs3 := hb3.size
            obtain ⟨e0, e1, e2, e3, e4, e5, e6, e7, e8, e9⟩ := Rl.cells (HCW.out w3 HW3.out)
            skip
            have HO3 := hid hown3
            clear hown3 hb3 HTK
            go_wp2_with (at_builtin; refine wpList_push elemR rfl _ _ rfl w2.heap.size _ _ _ [.int .i64 x.rank, .slice x.pa x.preds.length x.pcap, .string x.target, .int .i64 x.ap, .int .i64 x.as_, .int .i64 x.dp, .int .i64 x.dt, .int .i64 x.mp, .string x.mirror, .int .i64 x.sample] rfl HO3.out rfl rfl rfl (by simp [Value.oneCell']) ?_ ?_ ?_ ?_)
            · unfold maxLen; omega
            · omega
            · omega
            intro v4 w4 hown4 hb4
            have HB4 : Hid (Below w2.heap.size w2 w4) := HB3.out.trans hb4
            have hs4 := hb4.size
            have HO4 := hid hown4
            clear hown4 hb4 HO3 e0 e1 e2 e3 e4 e5 e6 e7 e8 e9
            go_wp2_with (at_builtin; refine wpList_pushCells elemR rfl _ _ rfl w2.heap.size _ _ _ rfl HO4.out rfl (HDR.out _ HB4.out) (Rl.one _) ?_ ?_ ?_ ?_)
            · unfold maxLen; omega
            · omega
            · omega
            intro v5 w5 hown5 hb5
            have HO5 : Hid (w5.ownsRow W.heap.size 60 10 v5 (k + 1) ((Srt.order Rl.rank (l.take (k + 1))).flatMap Rl.enc)) := by
              have h1 := owns_le hown5 (show W.heap.size ≤ w2.heap.size by omega)
              rw [HT.out, HIN.out]
              have h1 := owns_num (m := k + 1) (by omega) h1
              show w5.ownsRow _ _ _ _ _ _
              simpa [List.flatMap_append, List.append_assoc, Rl.enc] using h1
            have HB5 : Hid (Below W.heap.size W w5) := HWW.out.trans ((HB4.out.trans hb5).mono (by omega))
            clear hown5 hb5 HO4
            go_wp2_with fail
            go_roundw
            case rel => exact ⟨k + 1, by omega, by go_num, HB5.out, HO5.out⟩
            case measure => simp [intOf]; omega
        · obtain rfl : j = k := by omega
          have HIN : Hid (Srt.ins Rl.rank x out = out.take j ++ x :: out.drop j) := hid (Srt.ins_at Rl.rank x out j (by rw [HOL.out]; exact Nat.le_refl _) (fun y hy => by rw [List.drop_eq_nil_of_le (by rw [HOL.out]; exact Nat.le_refl _)] at hy; simp at hy) hge.out)
          have HDE0 : Hid (out.drop j = []) := hid (List.drop_eq_nil_of_le (by rw [HOL.out]; exact Nat.le_refl _))
          rcases hform with ⟨rfl, rfl, rfl⟩ | ⟨g, rfl, hg⟩
          · go_wp2_with fail
            refine wp_region_bw (by kernel_rfl) (by kernel_rfl) ?_
            repeat (go_big_quiet_step (fail))
            refine wpQuiet_nil ?_
            rintro w2 ⟨⟨_, hb2⟩, rfl⟩
            have HB2 : Hid (Below wo.heap.size wo w2) := HB1.out.trans (hb2.mono HB1.out.size)
            clear hb2
            have HTE : Hid (out.take 0 = []) := hid rfl
            have hs2 := HB2.out.size
            have HWW : Hid (Below W.heap.size W w2) := HB.out.trans (HB2.out.mono HB.out.size)
            have HTK : Hid (Cellz (fun b => W.heap.size ≤ b ∧ b < wo.heap.size) 10 w2 (.slice none 0 0) 0 ((out.take 0).flatMap Rl.enc)) := hid (cut_none _ _ _)
            have HDR : Hid (∀ w4, Below w2.heap.size w2 w4 → Cellz (fun b => W.heap.size ≤ b ∧ b < wo.heap.size) 10 w4 (.slice none 0 0) (0) ((out.drop 0).flatMap Rl.enc)) := hid (fun w4 hw4 => by rw [HDE0.out]; exact cut_none _ _ _)
            clear hbr d0
            go_wp2_with (at_builtin; refine wpList_pushCells elemR rfl _ _ rfl w2.heap.size _ 0 [] rfl (World.ownsRow_nil _ _ _ _) rfl HTK.out (Rl.one _) ?_ ?_ ?_ ?_)
            · unfold maxLen; omega
            · omega
            · exact Nat.le_refl _
            intro v3 w3 hown3 hb3
            have HW3 : Hid (Below W.heap.size W w3) := HWW.out.trans (hb3.mono (by omega))
            have HB3 := hid hb3
            have hs3 := hb3.size
            obtain ⟨e0, e1, e2, e3, e4, e5, e6, e7, e8, e9⟩ := Rl.cells (HCW.out w3 HW3.out)
            simp only [Nat.zero_mul, Nat.add_zero] at e0 e1 e2 e3 e4 e5 e6 e7 e8 e9
            have HO3 := hid hown3
            clear hown3 hb3 HTK
            go_wp2_with (at_builtin; refine wpList_push elemR rfl _ _ rfl w2.heap.size _ _ _ [.int .i64 x.rank, .slice x.pa x.preds.length x.pcap, .string x.target, .int .i64 x.ap, .int .i64 x.as_, .int .i64 x.dp, .int .i64 x.dt, .int .i64 x.mp, .string x.mirror, .int .i64 x.sample] rfl HO3.out rfl rfl rfl (by simp [Value.oneCell']) ?_ ?_ ?_ ?_)
            · unfold maxLen; omega
            · omega
            · omega
            intro v4 w4 hown4 hb4
            have HB4 : Hid (Below w2.heap.size w2 w4) := HB3.out.trans hb4
            have hs4 := hb4.size
            have HO4 := hid hown4
            clear hown4 hb4 HO3 e0 e1 e2 e3 e4 e5 e6 e7 e8 e9
            go_wp2_with (at_builtin; refine wpList_pushCells elemR rfl _ _ rfl w2.heap.size _ _ _ rfl HO4.out rfl (HDR.out _ HB4.out) (Rl.one _) ?_ ?_ ?_ ?_)
            · unfold maxLen; omega
            · omega
            · omega
            intro v5 w5 hown5 hb5
            have HO5 : Hid (w5.ownsRow W.heap.size 60 10 v5 (0 + 1) ((Srt.order Rl.rank (l.take (0 + 1))).flatMap Rl.enc)) := by
              have h1 := owns_le hown5 (show W.heap.size ≤ w2.heap.size by omega)
              rw [HT.out, HIN.out]
              have h1 := owns_num (m := 0 + 1) (by omega) h1
              show w5.ownsRow _ _ _ _ _ _
              simpa [List.flatMap_append, List.append_assoc, Rl.enc] using h1
            have HB5 : Hid (Below W.heap.size W w5) := HWW.out.trans ((HB4.out.trans hb5).mono (by omega))
            clear hown5 hb5 HO4
            go_wp2_with fail
            go_roundw
            case rel => exact ⟨0 + 1, by omega, by go_num, HB5.out, HO5.out⟩
            case measure => simp [intOf]; omega
          · have i3 : (0 : Int) ≤ (j : Int) := by omega
            have i6 : (j : Int) ≤ (co : Int) := by omega
            by_cases hc : co = j
            · subst hc
              go_wp2_with fail
              refine wp_region_bw (by kernel_rfl) (by kernel_rfl) ?_
              repeat (go_big_quiet_step (fail))
              refine wpQuiet_nil ?_
              rintro w2 ⟨⟨_, hb2⟩, rfl⟩
              have HB2 : Hid (Below wo.heap.size wo w2) := HB1.out.trans (hb2.mono HB1.out.size)
              clear hb2
              have hs2 := HB2.out.size
              have HWW : Hid (Below W.heap.size W w2) := HB.out.trans (HB2.out.mono HB.out.size)
              have HTK : Hid (Cellz (fun b => W.heap.size ≤ b ∧ b < wo.heap.size) 10 w2 (.slice (some ⟨g, 0, none⟩) co co) co ((out.take co).flatMap Rl.enc)) := hid (cut_low HOL.out HROW.out co (by omega) HB2.out (fun _ h => h.2))
              have HDR : Hid (∀ w4, Below w2.heap.size w2 w4 → Cellz (fun b => W.heap.size ≤ b ∧ b < wo.heap.size) 10 w4 (.slice (some ⟨g, 0, none⟩) 0 0) (0) ((out.drop co).flatMap Rl.enc)) := hid (fun w4 hw4 => by rw [HDE0.out]; exact cut_none _ _ _)
              clear hbr d0
              go_wp2_with (at_builtin; refine wpList_pushCells elemR rfl _ _ rfl w2.heap.size _ 0 [] rfl (World.ownsRow_nil _ _ _ _) rfl HTK.out (Rl.one _) ?_ ?_ ?_ ?_)
              · unfold maxLen; omega
              · omega
              · exact Nat.le_refl _
              intro v3 w3 hown3 hb3
              have HW3 : Hid (Below W.heap.size W w3) := HWW.out.trans (hb3.mono (by omega))
              have HB3 := hid hb3
              have hs3 := hb3.size
              obtain ⟨e0, e1, e2, e3, e4, e5, e6, e7, e8, e9⟩ := Rl.cells (HCW.out w3 HW3.out)
              skip
              have HO3 := hid hown3
              clear hown3 hb3 HTK
              go_wp2_with (at_builtin; refine wpList_push elemR rfl _ _ rfl w2.heap.size _ _ _ [.int .i64 x.rank, .slice x.pa x.preds.length x.pcap, .string x.target, .int .i64 x.ap, .int .i64 x.as_, .int .i64 x.dp, .int .i64 x.dt, .int .i64 x.mp, .string x.mirror, .int .i64 x.sample] rfl HO3.out rfl rfl rfl (by simp [Value.oneCell']) ?_ ?_ ?_ ?_)
              · unfold maxLen; omega
              · omega
              · omega
              intro v4 w4 hown4 hb4
              have HB4 : Hid (Below w2.heap.size w2 w4) := HB3.out.trans hb4
              have hs4 := hb4.size
              have HO4 := hid hown4
              clear hown4 hb4 HO3 e0 e1 e2 e3 e4 e5 e6 e7 e8 e9
              go_wp2_with (at_builtin; refine wpList_pushCells elemR rfl _ _ rfl w2.heap.size _ _ _ rfl HO4.out rfl (HDR.out _ HB4.out) (Rl.one _) ?_ ?_ ?_ ?_)
              · unfold maxLen; omega
              · omega
              · omega
              intro v5 w5 hown5 hb5
              have HO5 : Hid (w5.ownsRow W.heap.size 60 10 v5 (co + 1) ((Srt.order Rl.rank (l.take (co + 1))).flatMap Rl.enc)) := by
                have h1 := owns_le hown5 (show W.heap.size ≤ w2.heap.size by omega)
                rw [HT.out, HIN.out]
                have h1 := owns_num (m := co + 1) (by omega) h1
                show w5.ownsRow _ _ _ _ _ _
                simpa [List.flatMap_append, List.append_assoc, Rl.enc] using h1
              have HB5 : Hid (Below W.heap.size W w5) := HWW.out.trans ((HB4.out.trans hb5).mono (by omega))
              clear hown5 hb5 HO4
              go_wp2_with fail
              go_roundw
              case rel => exact ⟨co + 1, by omega, by go_num, HB5.out, HO5.out⟩
              case measure => simp [intOf]; omega
            · go_wp2_with fail
              refine wp_region_bw (by kernel_rfl) (by kernel_rfl) ?_
              repeat (go_big_quiet_step (fail))
              refine wpQuiet_nil ?_
              rintro w2 ⟨⟨_, hb2⟩, rfl⟩
              have HB2 : Hid (Below wo.heap.size wo w2) := HB1.out.trans (hb2.mono HB1.out.size)
              clear hb2
              have hs2 := HB2.out.size
              have HWW : Hid (Below W.heap.size W w2) := HB.out.trans (HB2.out.mono HB.out.size)
              have HTK : Hid (Cellz (fun b => W.heap.size ≤ b ∧ b < wo.heap.size) 10 w2 (.slice (some ⟨g, 0, none⟩) j co) j ((out.take j).flatMap Rl.enc)) := hid (cut_low HOL.out HROW.out j (by omega) HB2.out (fun _ h => h.2))
              have HDR : Hid (∀ w4, Below w2.heap.size w2 w4 → Cellz (fun b => W.heap.size ≤ b ∧ b < wo.heap.size) 10 w4 (.slice (some ⟨g, j * 10, none⟩) 0 (co - j)) (0) ((out.drop j).flatMap Rl.enc)) := hid (fun w4 hw4 => by
                have := cut_high HOL.out HROW.out j (by omega) (HB2.out.trans (hw4.mono (by omega))) (fun _ h => h.2)
                rw [Nat.sub_self] at this
                exact this)
              clear hbr d0
              go_wp2_with (at_builtin; refine wpList_pushCells elemR rfl _ _ rfl w2.heap.size _ 0 [] rfl (World.ownsRow_nil _ _ _ _) rfl HTK.out (Rl.one _) ?_ ?_ ?_ ?_)
              · unfold maxLen; omega
              · omega
              · exact Nat.le_refl _
              intro v3 w3 hown3 hb3
              have HW3 : Hid (Below W.heap.size W w3) := HWW.out.trans (hb3.mono (by omega))
              have HB3 := hid hb3
              have hs3 := hb3.size
              obtain ⟨e0, e1, e2, e3, e4, e5, e6, e7, e8, e9⟩ := Rl.cells (HCW.out w3 HW3.out)
              skip
              have HO3 := hid hown3
              clear hown3 hb3 HTK
              go_wp2_with (at_builtin; refine wpList_push elemR rfl _ _ rfl w2.heap.size _ _ _ [.int .i64 x.rank, .slice x.pa x.preds.length x.pcap, .string x.target, .int .i64 x.ap, .int .i64 x.as_, .int .i64 x.dp, .int .i64 x.dt, .int .i64 x.mp, .string x.mirror, .int .i64 x.sample] rfl HO3.out rfl rfl rfl (by simp [Value.oneCell']) ?_ ?_ ?_ ?_)
              · unfold maxLen; omega
              · omega
              · omega
              intro v4 w4 hown4 hb4
              have HB4 : Hid (Below w2.heap.size w2 w4) := HB3.out.trans hb4
              have hs4 := hb4.size
              have HO4 := hid hown4
              clear hown4 hb4 HO3 e0 e1 e2 e3 e4 e5 e6 e7 e8 e9
              go_wp2_with (at_builtin; refine wpList_pushCells elemR rfl _ _ rfl w2.heap.size _ _ _ rfl HO4.out rfl (HDR.out _ HB4.out) (Rl.one _) ?_ ?_ ?_ ?_)
              · unfold maxLen; omega
              · omega
              · omega
              intro v5 w5 hown5 hb5
              have HO5 : Hid (w5.ownsRow W.heap.size 60 10 v5 (j + 1) ((Srt.order Rl.rank (l.take (j + 1))).flatMap Rl.enc)) := by
                have h1 := owns_le hown5 (show W.heap.size ≤ w2.heap.size by omega)
                rw [HT.out, HIN.out]
                have h1 := owns_num (m := j + 1) (by omega) h1
                show w5.ownsRow _ _ _ _ _ _
                simpa [List.flatMap_append, List.append_assoc, Rl.enc] using h1
              have HB5 : Hid (Below W.heap.size W w5) := HWW.out.trans ((HB4.out.trans hb5).mono (by omega))
              clear hown5 hb5 HO4
              go_wp2_with fail
              go_roundw
              case rel => exact ⟨j + 1, by omega, by go_num, HB5.out, HO5.out⟩
              case measure => simp [intOf]; omega
    · obtain rfl : k = l.length := by omega
      rw [List.take_length] at hown
      obtain ⟨ao, co, rfl⟩ := owns_form hown
      have HR : Hid (ROrd W l (.slice ao l.length co) wo) := ⟨HB.out, hown⟩
      clear hown hb
      go_wp2_with fail
      go_ret
      exact ⟨_, rfl, HR.out⟩
end C12
end Go.Proofs.Ytmmmaldpalhjeaa
