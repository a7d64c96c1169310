/- Plain law of layer 12 (rule): elements of a row, and one element moved many places. Walks of layer 12 (rule): rules merged, one behind a row; no condition. Walks of layer 12 (rule): rules merged, the middle ahead of the border; no condition. -/
import Derived.Test.YtmmmaldpalhjeaaMg07
namespace Go.Proofs.Ytmmmaldpalhjeaa
open Go.RowKit Go.Peri Go.Shelf Go.Lib Go.Sort
namespace C12
theorem at_mid {A x R : List Rl} {a c : Nat} (ha : A.length = a) (h1 : a ≤ c) (h2 : c < a + x.length) : (A ++ (x ++ R)).toArray[c]! = x[c - a]! := by
  subst ha
  rw [getElem!_pos _ c (by simp only [List.size_toArray, List.length_append]; omega), getElem!_pos x (c - A.length) (by omega), List.getElem_toArray, List.getElem_append_right h1, List.getElem_append_left (by omega)]
theorem at_one {A R : List Rl} {u : Rl} {a : Nat} (ha : A.length = a) : (A ++ u :: R).toArray[a]! = u := by
  have := at_mid (A := A) (x := [u]) (R := R) (c := a) ha (Nat.le_refl _) (by simp)
  simpa using this
theorem swapN_left : ∀ (n : Nat) (A y1 y2 : List Rl) (u : Rl) (a : Nat), A.length = a → y1.length = n → swapN (A ++ (u :: (y1 ++ y2))).toArray a (a + 1) n = (A ++ (y1 ++ u :: y2)).toArray
  | 0, A, y1, y2, u, a, _, h => by
    rw [List.length_eq_zero_iff.1 h]
    rfl
  | n + 1, A, y1, y2, u, a, ha, h => by
    have hy0 : y1 ≠ [] := by intro h0; rw [h0] at h; simp at h
    obtain ⟨y', v, rfl⟩ : ∃ y' v, y1 = y' ++ [v] := ⟨y1.dropLast, y1.getLast hy0, (List.dropLast_concat_getLast hy0).symm⟩
    have hy' : y'.length = n := by simpa using h
    have ih := swapN_left n A y' (v :: y2) u a ha hy'
    show swp (swapN _ a (a + 1) n) (a + n) (a + 1 + n) = _
    have e1 : A ++ (u :: (y' ++ [v] ++ y2)) = A ++ (u :: (y' ++ v :: y2)) := by simp
    rw [e1, ih]
    have e2 : A ++ (y' ++ u :: v :: y2) = (A ++ y') ++ u :: ([] ++ v :: y2) := by simp
    rw [e2, Srt.swp_at (A ++ y') [] y2 u v (a + n) (a + 1 + n) (by rw [List.length_append]; omega) (by simp; omega)]
    simp
/-- One element moved towards the front. -/
def swapR (d : Array Rl) (m : Nat) : Nat → Array Rl
  | 0 => d
  | n + 1 => swp (swapR d m n) (m - n) (m - n - 1)
theorem size_swapR (d : Array Rl) (m : Nat) : ∀ n, (swapR d m n).size = d.size
  | 0 => rfl
  | n + 1 => by
    show (swp _ _ _).size = _
    rw [size_swp, size_swapR d m n]
theorem swapR_right : ∀ (n : Nat) (A x1 x2 B : List Rl) (v : Rl) (m : Nat), A.length + (x1.length + x2.length) = m → x2.length = n → swapR (A ++ (x1 ++ (x2 ++ v :: B))).toArray m n = (A ++ (x1 ++ (v :: x2 ++ B))).toArray
  | 0, A, x1, x2, B, v, m, _, h => by
    rw [List.length_eq_zero_iff.1 h]
    rfl
  | n + 1, A, x1, x2, B, v, m, hm, h => by
    match x2, h with
    | u :: x', h =>
      have h' : x'.length = n := by simpa using h
      have ih := swapR_right n A (x1 ++ [u]) x' B v m (by rw [← hm]; simp; omega) h'
      show swp (swapR _ m n) (m - n) (m - n - 1) = _
      have e1 : A ++ (x1 ++ (u :: x' ++ v :: B)) = A ++ (x1 ++ [u] ++ (x' ++ v :: B)) := by simp
      rw [e1, ih]
      have e2 : A ++ (x1 ++ [u] ++ (v :: x' ++ B)) = (A ++ x1) ++ u :: ([] ++ v :: (x' ++ B)) := by simp
      have hl : (u :: x').length = n + 1 := h
      rw [List.length_cons] at hl hm
      rw [Srt.swp_comm _ _ _ (by omega), e2, Srt.swp_at (A ++ x1) [] (x' ++ B) u v (m - n - 1) (m - n) (by rw [List.length_append]; omega) (by simp; omega)]
      simp
/-- symMerge where one rule stands ahead of a row that falls. -/
theorem symLeft_list {P : Program} (FG : P.funcs[(194 : Nat)]? = some Try.f194) (kc : Nat) (L : LayR P kc) (LU : LayU P) (eg : ∀ args w, (callFunc 110 args).run P w = .ok (.enter 110 args) w)
    (blk off cap N a m b : Nat) (d0 : Array Rl) (w0 w : World) (hcmp : CmpLays P 110 #[] Rl.enc kc cf blk off N w0) (R : RowK Rl.enc kc w0 blk off d0) (hN : d0.size = N) (A y B : List Rl) (u : Rl) (ha : A.length = a) (hm : a + 1 = m) (hb : m + y.length = b) (hB : b + B.length = N) (hsz : N < 4611686018427387904) (hy : Srt.Falls Rl.rank y)
    (S : SWK Rl.enc kc w0 blk off (A ++ ([u] ++ (y ++ B))).toArray w) :
    Calls P 194 #[.slice (some ⟨blk, off, none⟩) N cap, .int .i64 a, .int .i64 m, .int .i64 b, .func (.func 110) #[] #[]] w fun e w' => e = .returned (.tuple #[]) ∧ SWK Rl.enc kc w0 blk off (A ++ (Srt.order Rl.rank ([u] ++ y) ++ B)).toArray w' := by
  have hD : (A ++ ([u] ++ (y ++ B))).toArray.size = N := by simp only [List.size_toArray, List.length_append, List.length_singleton]; omega
  refine (symLeft_gen FG kc L LU eg blk off cap N a m b d0 _ w0 w hcmp R hN hD hm (by omega) (by omega) hsz S).mono ?_
  rintro e w' ⟨rfl, i, h1, h2, h3, h4, h5⟩
  refine ⟨rfl, ?_⟩
  have ea : (A ++ ([u] ++ (y ++ B))).toArray[a]! = u := at_one ha
  have eb : ∀ c, m ≤ c → c < b → (A ++ ([u] ++ (y ++ B))).toArray[c]! = y[c - m]! := by
    intro c hc1 hc2
    have := at_mid (A := A ++ [u]) (x := y) (R := B) (a := m) (c := c) (by simp; omega) hc1 (by omega)
    simpa [List.append_assoc] using this
  rw [ea] at h3 h4
  have h3' : i - m = 0 ∨ u.rank < y[i - m - 1]!.rank := by
    by_cases h : i = m
    · exact Or.inl (by omega)
    · have := h3.resolve_left h
      rw [eb (i - 1) (by omega) (by omega)] at this
      rw [show i - m - 1 = i - 1 - m by omega]
      exact Or.inr this
  have h4' : i - m = y.length ∨ ¬ u.rank < y[i - m]!.rank := by
    by_cases h : i = b
    · exact Or.inl (by omega)
    · have := h4.resolve_left h
      rw [eb i (by omega) (by omega)] at this
      exact Or.inr (Int.not_lt.2 this)
  have hc := Srt.cut_left Rl.rank u y hy (i - m) (by omega) h3' h4'
  rw [List.singleton_append, hc]
  have e5 := swapN_left (i - 1 - a) A (y.take (i - m)) (y.drop (i - m) ++ B) u a ha (by rw [List.length_take]; omega)
  rw [← List.append_assoc, List.take_append_drop] at e5
  have e6 : (A ++ ([u] ++ (y ++ B))).toArray = (A ++ u :: (y ++ B)).toArray := rfl
  rw [e6, e5] at h5
  simpa using h5
end C12
end Go.Proofs.Ytmmmaldpalhjeaa
namespace Go.Proofs.Ytmmmaldpalhjeaa
open Go.RowKit Go.Peri Go.Shelf Go.Lib Go.Sort
namespace C12
theorem swapR_succ (d : Array Rl) (m n : Nat) : swapR d m (n + 1) = swp (swapR d m n) (m - n) (m - n - 1) := rfl
set_option maxHeartbeats 4000000 in
set_option maxRecDepth 1000000 in
/-- One rule behind a row. -/
theorem symRight_gen {P : Program} (FG : P.funcs[(194 : Nat)]? = some Try.f194) (kc : Nat) (L : LayR P kc) (LU : LayU P) (eg : ∀ args w, (callFunc 110 args).run P w = .ok (.enter 110 args) w)
    (blk off cap N a m b : Nat) (d0 D : Array Rl) (w0 w : World) (hcmp : CmpLays P 110 #[] Rl.enc kc cf blk off N w0) (R : RowK Rl.enc kc w0 blk off d0) (hN : d0.size = N) (hD : D.size = N) (ham : a + 2 ≤ m) (hm : m + 1 = b) (hbN : b ≤ N) (hsz : N < 4611686018427387904)
    (S : SWK Rl.enc kc w0 blk off D w) :
    Calls P 194 #[.slice (some ⟨blk, off, none⟩) N cap, .int .i64 a, .int .i64 m, .int .i64 b, .func (.func 110) #[] #[]] w fun e w' => e = .returned (.tuple #[]) ∧ ∃ i, a ≤ i ∧ i ≤ m ∧ (i = a ∨ D[m]!.rank ≤ D[i - 1]!.rank) ∧ (i = m ∨ D[i]!.rank < D[m]!.rank) ∧ SWK Rl.enc kc w0 blk off (swapR D m (m - i)) w' := by
  have mixed := L.mixed; have t0 := L.t0; have a0 := L.a0; have z0 := L.z0; have v0 := L.v0; have t3 := L.t3; have a3 := L.a3; have z3 := L.z3; have v3 := L.v3; have t4 := L.t4; have a4 := L.a4; have z4 := L.z4; have v4 := L.v4; have t22 := L.t22; have a22 := L.a22; have z22 := L.z22; have v22 := L.v22; have aE := L.aE; have zE := L.zE
  have tu := LU.tu; have au := LU.au; have zu := LU.zu; have vu := LU.vu
  clear L LU
  have HC := hid hcmp
  have HNN := hid hN
  have HDD := hid hD
  have S0 := hid S
  clear S hcmp hN hD
  have HM := hid hm
  have HAM := hid ham
  have r0 : IntKind.i64.wrap ((m : Int) - (a : Int)) = ((m - a : Nat) : Int) := by rw [IntKind.wrap_i64]; omega
  obtain ⟨q0, hq0⟩ : ∃ q, m - a = q := ⟨_, rfl⟩
  rw [hq0] at r0
  have r1 : IntKind.i64.wrap ((b : Int) - (m : Int)) = 1 := by rw [IntKind.wrap_i64]; omega
  have r2 : ((q0 : Int) == 1) = false := by rw [beq_eq_false_iff_ne]; omega
  have r3 : ¬ ((q0 : Int) = 1) := by omega
  have r4 : ¬ (q0 = 1) := by omega
  clear hm hq0 ham
  go_enter FG, Try.ntmps194
  go_wp2_with fail
  go_loopw [14, 15] (fun s t wr => ∃ i j : Nat, s = .int .i64 i ∧ t = .int .i64 j ∧ a ≤ i ∧ i ≤ j ∧ j ≤ m ∧ Hid (i = a ∨ D[m]!.rank ≤ D[i - 1]!.rank) ∧ Hid (j = m ∨ D[j]!.rank < D[m]!.rank) ∧ Hid (SWK Rl.enc kc w0 blk off D wr)) (fun s t _ => (intOf t).toNat - (intOf s).toNat)
  case atStart =>
    have := HAM.out
    exact ⟨a, m, rfl, rfl, Nat.le_refl _, by omega, Nat.le_refl _, hid (Or.inl rfl), hid (Or.inl rfl), S0⟩
  case round =>
    clear S0 r0 r1 r2 r3 r4
    obtain ⟨i, j, rfl, rfl, h1, h2, h3, HI, HJ, S1⟩ := hrel
    have hma := HM.out
    have hDs := HDD.out
    have hNs := HNN.out
    by_cases hij : i < j
    · have g0 : decide ((i : Int) < (j : Int)) = true := decide_eq_true (by omega)
      have e0 : IntKind.i64.wrap ((i : Int) + (j : Int)) = ((i + j : Nat) : Int) := by rw [IntKind.wrap_i64]; omega
      obtain ⟨s, hs⟩ : ∃ s, i + j = s := ⟨_, rfl⟩
      rw [hs] at e0
      have e1 : IntKind.u64.wrap (s : Int) = (s : Int) := by rw [IntKind.wrap_u64]; omega
      obtain ⟨h, hh⟩ : ∃ h, s / 2 = h := ⟨_, rfl⟩
      have e2 : ((s : Int) / 2) = (h : Int) := by omega
      have e3 : IntKind.u64.wrap (h : Int) = (h : Int) := by rw [IntKind.wrap_u64]; omega
      have e4 : IntKind.i64.wrap (h : Int) = (h : Int) := by rw [IntKind.wrap_i64]; omega
      have ea : ((h : Int)).toNat = h := by omega
      have pa : (0 : Int) ≤ (h : Int) := by omega
      have ba : (h : Int) < (N : Int) := by omega
      have ec : ((m : Int)).toNat = m := by omega
      have pc : (0 : Int) ≤ (m : Int) := by omega
      have bc : (m : Int) < (N : Int) := by omega
      obtain ⟨x, hx⟩ : ∃ x, x = D[m]! := ⟨_, rfl⟩
      obtain ⟨y, hy⟩ : ∃ y, y = D[h]! := ⟨_, rfl⟩
      have la := S1.out.ld R (by omega) P h (by omega)
      have lb := S1.out.ld R (by omega) P m (by omega)
      rw [← hy] at la
      rw [← hx] at lb
      have hc := S1.out.cmp HC.out hDs x y
      have HX := hid hx
      have HY := hid hy
      have h4 : i ≤ h := by omega
      have h5 : h < j := by omega
      clear hx hy hma hDs hNs hs hh
      by_cases hv : cf x y < 0
      · have hd : decide (cf x y < 0) = true := decide_eq_true hv
        have HV : Hid (D[h]!.rank < D[m]!.rank) := hid (by rw [← HX.out, ← HY.out]; exact (rank_lt x y).1 hv)
        go_wp2_with fail
        go_quiet_grown (first | (go_at_fn 110; refine Calls.grown_of (hc _ _)))
        have S2 : Hid (SWK Rl.enc kc w0 blk off D (grow (wr.drewN nq) osq)) := hid (S1.out.grown nq osq)
        clear la lb hc S1
        generalize grow (wr.drewN nq) osq = w2 at S2 ⊢
        clear nq osq
        go_wp2_with fail
        go_roundw
        case rel => exact ⟨i, h, rfl, rfl, h1, h4, by omega, HI, hid (Or.inr HV.out), S2⟩
        case measure => simp [intOf]; omega
      · have hd : decide (cf x y < 0) = false := decide_eq_false hv
        have HV : Hid (D[m]!.rank ≤ D[h + 1 - 1]!.rank) := hid (by rw [Nat.add_sub_cancel, ← HX.out, ← HY.out]; exact Int.not_lt.1 (fun hq => hv ((rank_lt x y).2 hq)))
        go_wp2_with fail
        go_quiet_grown (first | (go_at_fn 110; refine Calls.grown_of (hc _ _)))
        have S2 : Hid (SWK Rl.enc kc w0 blk off D (grow (wr.drewN nq) osq)) := hid (S1.out.grown nq osq)
        clear la lb hc S1
        generalize grow (wr.drewN nq) osq = w2 at S2 ⊢
        clear nq osq
        go_wp2_with fail
        go_roundw
        case rel => exact ⟨h + 1, j, by go_num, rfl, by omega, by omega, h3, hid (Or.inr HV.out), HJ, S2⟩
        case measure => simp [intOf]; omega
    · obtain rfl : i = j := by omega
      have hmN : m < N := by omega
      have HFI : Hid (∀ w', SWK Rl.enc kc w0 blk off (swapR D m (m - i)) w' → ∃ i, a ≤ i ∧ i ≤ m ∧ (i = a ∨ D[m]!.rank ≤ D[i - 1]!.rank) ∧ (i = m ∨ D[i]!.rank < D[m]!.rank) ∧ SWK Rl.enc kc w0 blk off (swapR D m (m - i)) w') := hid (fun w' h => ⟨i, h1, h3, HI.out, HJ.out, h⟩)
      have HSZ := hid (size_swapR D m)
      clear hma hDs hNs h1 h2 hij HI HJ
      go_wp2_with fail
      go_loopw [17] (fun s wz => ∃ k n : Nat, s = .int .i64 k ∧ k + n = m ∧ i ≤ k ∧ Hid (SWK Rl.enc kc w0 blk off (swapR D m n) wz)) (fun s _ => (intOf s).toNat - i)
      case atStart => exact ⟨m, 0, rfl, rfl, h3, S1⟩
      case round =>
        clear S1
        obtain ⟨k, n, rfl, hk1, hk2, S1⟩ := hrel
        by_cases hlt : i < k
        · have g0 : decide ((i : Int) < (k : Int)) = true := decide_eq_true (by omega)
          obtain ⟨j, hj⟩ : ∃ j, k - 1 = j := ⟨_, rfl⟩
          have hz := (HSZ.out n).trans (HDD.out.trans HNN.out.symm)
          have hNs := HNN.out
          have hk' : k < d0.size := by omega
          have hj' : j < d0.size := by omega
          have hjp : j + (n + 1) = m ∧ i ≤ j := by omega
          have e8 : m - n = k := by omega
          have e9 : m - n - 1 = j := by omega
          have S2' : Hid (SWK Rl.enc kc w0 blk off (swapR D m (n + 1)) ((wr.drew.setCells blk (off + k * kc) (Rl.enc (swapR D m n)[j]!)).setCells blk (off + j * kc) (Rl.enc (swapR D m n)[k]!))) := hid (by
            rw [swapR_succ, e9, e8]
            exact S1.out.swapped R k j (by rw [hz]; exact hk') (by rw [hz]; exact hj'))
          generalize swapR D m n = dk at S1 S2' hz
          have ra : IntKind.i64.wrap ((k : Int) - 1) = (j : Int) := by rw [IntKind.wrap_i64]; omega
          have ea : ((k : Int)).toNat = k := by omega
          have pa : (0 : Int) ≤ (k : Int) := by omega
          have ba : (k : Int) < (N : Int) := by omega
          have eb : ((j : Int)).toNat = j := by omega
          have pb : (0 : Int) ≤ (j : Int) := by omega
          have bb : (j : Int) < (N : Int) := by omega
          have la := S1.out.ld1 R hz P k (by rw [hz]; exact hk')
          have lb := S1.out.ld1 R hz P j (by rw [hz]; exact hj')
          have sa := S1.out.st1 R hz P k (by rw [hz]; exact hk') dk[j]!
          have sb := S1.out.st2 R hz P k j (by rw [hz]; exact hk') (by rw [hz]; exact hj') dk[j]! dk[k]!
          have na : (Rl.enc dk[k]!).length = kc := R.hk _
          have nb : (Rl.enc dk[j]!).length = kc := R.hk _
          generalize Rl.enc dk[k]! = cI at S2' la sb na
          generalize Rl.enc dk[j]! = cJ at S2' lb sa sb nb
          clear S1 hz hNs hk' hj' e8 e9 hk1
          have HJK := hid hj
          clear hj
          go_wp2_with fail
          go_big_region_o
          clear la lb sa sb
          generalize (wr.drew.setCells blk (off + k * kc) cJ).setCells blk (off + j * kc) cI = w2 at S2' ⊢
          go_wp2_with fail
          go_roundw
          case rel => exact ⟨j, n + 1, rfl, hjp.1, hjp.2, S2'⟩
          case measure =>
            have := HJK.out
            simp [intOf]; omega
        · obtain rfl : k = i := by omega
          go_wp2_with fail
          obtain rfl : n = m - k := by omega
          refine bodyPost_ret (by simp [results, Try.results194, go_sem]; try rfl) rfl ?_
          exact ⟨rfl, HFI.out _ S1.out⟩
/-- symMerge where one rule stands behind a row that falls. -/
theorem symRight_list {P : Program} (FG : P.funcs[(194 : Nat)]? = some Try.f194) (kc : Nat) (L : LayR P kc) (LU : LayU P) (eg : ∀ args w, (callFunc 110 args).run P w = .ok (.enter 110 args) w)
    (blk off cap N a m b : Nat) (d0 : Array Rl) (w0 w : World) (hcmp : CmpLays P 110 #[] Rl.enc kc cf blk off N w0) (R : RowK Rl.enc kc w0 blk off d0) (hN : d0.size = N) (A x B : List Rl) (v : Rl) (ha : A.length = a) (hx2 : 2 ≤ x.length) (hm : a + x.length = m) (hb : m + 1 = b) (hB : b + B.length = N) (hsz : N < 4611686018427387904) (hx : Srt.Falls Rl.rank x)
    (S : SWK Rl.enc kc w0 blk off (A ++ (x ++ ([v] ++ B))).toArray w) :
    Calls P 194 #[.slice (some ⟨blk, off, none⟩) N cap, .int .i64 a, .int .i64 m, .int .i64 b, .func (.func 110) #[] #[]] w fun e w' => e = .returned (.tuple #[]) ∧ SWK Rl.enc kc w0 blk off (A ++ (Srt.order Rl.rank (x ++ [v]) ++ B)).toArray w' := by
  have hD : (A ++ (x ++ ([v] ++ B))).toArray.size = N := by simp only [List.size_toArray, List.length_append, List.length_singleton]; omega
  refine (symRight_gen FG kc L LU eg blk off cap N a m b d0 _ w0 w hcmp R hN hD (by omega) hb (by omega) hsz S).mono ?_
  rintro e w' ⟨rfl, i, h1, h2, h3, h4, h5⟩
  refine ⟨rfl, ?_⟩
  have ea : (A ++ (x ++ ([v] ++ B))).toArray[m]! = v := by
    have := at_one (A := A ++ x) (R := B) (u := v) (a := m) (by rw [List.length_append]; omega)
    simpa [List.append_assoc] using this
  have eb : ∀ c, a ≤ c → c < m → (A ++ (x ++ ([v] ++ B))).toArray[c]! = x[c - a]! := fun c hc1 hc2 => at_mid ha hc1 (by omega)
  rw [ea] at h3 h4
  have h3' : i - a = 0 ∨ ¬ x[i - a - 1]!.rank < v.rank := by
    by_cases h : i = a
    · exact Or.inl (by omega)
    · have := h3.resolve_left h
      rw [eb (i - 1) (by omega) (by omega)] at this
      rw [show i - a - 1 = i - 1 - a by omega]
      exact Or.inr (Int.not_lt.2 this)
  have h4' : i - a = x.length ∨ x[i - a]!.rank < v.rank := by
    by_cases h : i = m
    · exact Or.inl (by omega)
    · have := h4.resolve_left h
      rw [eb i (by omega) (by omega)] at this
      exact Or.inr this
  have hc := Srt.cut_right Rl.rank v x hx (i - a) (by omega) h3' h4'
  rw [hc]
  have e5 := swapR_right (m - i) A (x.take (i - a)) (x.drop (i - a)) B v m (by rw [List.length_take, List.length_drop]; omega) (by rw [List.length_drop]; omega)
  rw [← List.append_assoc (x.take (i - a)), List.take_append_drop] at e5
  have e6 : (A ++ (x ++ ([v] ++ B))).toArray = (A ++ (x ++ v :: B)).toArray := rfl
  rw [e6, e5] at h5
  simpa using h5
end C12
end Go.Proofs.Ytmmmaldpalhjeaa
namespace Go.Proofs.Ytmmmaldpalhjeaa
open Go.RowKit Go.Peri Go.Shelf Go.Lib Go.Sort
namespace C12
set_option maxHeartbeats 16000000 in
set_option maxRecDepth 1000000 in
theorem symMidA_gen {P : Program} (FG : P.funcs[(194 : Nat)]? = some Try.f194) (kc : Nat) (L : LayR P kc) (LU : LayU P) (eg : ∀ args w, (callFunc 110 args).run P w = .ok (.enter 110 args) w) (er : ∀ args w, (callFunc 234 args).run P w = .ok (.enter 234 args) w) (es : ∀ args w, (callFunc 194 args).run P w = .ok (.enter 194 args) w)
    (blk off cap N a m b : Nat) (d0 : Array Rl) (w0 w : World) (hcmp : CmpLays P 110 #[] Rl.enc kc cf blk off N w0) (R : RowK Rl.enc kc w0 blk off d0) (hN : d0.size = N) (A x y B : List Rl) (ha : A.length = a) (hm : a + x.length = m) (hb : m + y.length = b) (hB : b + B.length = N) (hx2 : 2 ≤ x.length) (hy2 : 2 ≤ y.length) (hfx : Srt.Falls Rl.rank x) (hfy : Srt.Falls Rl.rank y) (hsz : N < 4611686018427387904)
    (HROT : ∀ (a m b : Nat) (A U V B : List Rl) (w : World), A.length + (U.length + (V.length + B.length)) = N → A.length = a → a + U.length = m → m + V.length = b → 0 < U.length → 0 < V.length → SWK Rl.enc kc w0 blk off (A ++ (U ++ (V ++ B))).toArray w → Calls P 234 #[.slice (some ⟨blk, off, none⟩) N cap, .int .i64 a, .int .i64 m, .int .i64 b, .func (.func 110) #[] #[]] w fun e w' => e = .returned (.tuple #[]) ∧ SWK Rl.enc kc w0 blk off (A ++ (V ++ (U ++ B))).toArray w')
    (HREC : ∀ (a m b : Nat) (A X Y B : List Rl) (w : World), X.length + Y.length < x.length + y.length → A.length = a → a + X.length = m → m + Y.length = b → b + B.length = N → 0 < X.length → 0 < Y.length → Srt.Falls Rl.rank X → Srt.Falls Rl.rank Y → SWK Rl.enc kc w0 blk off (A ++ (X ++ (Y ++ B))).toArray w → Calls P 194 #[.slice (some ⟨blk, off, none⟩) N cap, .int .i64 a, .int .i64 m, .int .i64 b, .func (.func 110) #[] #[]] w fun e w' => e = .returned (.tuple #[]) ∧ SWK Rl.enc kc w0 blk off (A ++ (Srt.order Rl.rank (X ++ Y) ++ B)).toArray w')
    (mid : Nat) (hmid : (a + b) / 2 = mid) (hcase : mid < m)
    (S : SWK Rl.enc kc w0 blk off (A ++ (x ++ (y ++ B))).toArray w) :
    Calls P 194 #[.slice (some ⟨blk, off, none⟩) N cap, .int .i64 a, .int .i64 m, .int .i64 b, .func (.func 110) #[] #[]] w fun e w' => e = .returned (.tuple #[]) ∧ SWK Rl.enc kc w0 blk off (A ++ (Srt.order Rl.rank (x ++ y) ++ B)).toArray w' := by
  have mixed := L.mixed; have t0 := L.t0; have a0 := L.a0; have z0 := L.z0; have v0 := L.v0; have t3 := L.t3; have a3 := L.a3; have z3 := L.z3; have v3 := L.v3; have t4 := L.t4; have a4 := L.a4; have z4 := L.z4; have v4 := L.v4; have t22 := L.t22; have a22 := L.a22; have z22 := L.z22; have v22 := L.v22; have aE := L.aE; have zE := L.zE
  have tu := LU.tu; have au := LU.au; have zu := LU.zu; have vu := LU.vu
  clear L LU
  obtain ⟨D, hDe⟩ : ∃ D, D = (A ++ (x ++ (y ++ B))).toArray := ⟨_, rfl⟩
  have hD : D.size = N := by rw [hDe]; simp only [List.size_toArray, List.length_append]; omega
  have hex : ∀ c, a ≤ c → c < m → D[c]! = x[c - a]! := fun c h1 h2 => by rw [hDe]; exact at_mid ha h1 (by omega)
  have hey : ∀ c, m ≤ c → c < b → D[c]! = y[c - m]! := fun c h1 h2 => by
    rw [hDe]
    have := at_mid (A := A ++ x) (x := y) (R := B) (a := m) (c := c) (by rw [List.length_append]; omega) h1 (by omega)
    simpa [List.append_assoc] using this
  have HEX := hid hex
  have HEY := hid hey
  have HDE := hid hDe
  have HC := hid hcmp
  have HNN := hid hN
  have HDD := hid hD
  rw [← hDe] at S
  have S0 := hid S
  replace HROT := hid HROT
  replace HREC := hid HREC
  have HFX := hid hfx
  have HFY := hid hfy
  obtain ⟨p, hp⟩ : ∃ p, mid + m - 1 = p := ⟨_, rfl⟩
  obtain ⟨lo, hlo⟩ : ∃ lo, p + 1 - b = lo := ⟨_, rfl⟩
  obtain ⟨hi, hhi⟩ : ∃ hi, mid = hi := ⟨_, rfl⟩
  have HL : Hid (a ≤ lo ∧ lo ≤ hi ∧ hi ≤ mid ∧ hi ≤ m ∧ p - lo < b ∧ p + 1 - hi ≥ m ∧ p + 1 = mid + m ∧ (lo = a ∨ p + 1 - lo = b) ∧ (hi = m ∨ p + 1 - hi = m)) := hid (by omega)
  have HAL := hid ha
  have HXL := hid hm
  have HYL := hid hb
  have HBL := hid hB
  have HX2 := hid hx2
  have HY2 := hid hy2
  obtain ⟨sab, hsab⟩ : ∃ s, a + b = s := ⟨_, rfl⟩
  have f0 : IntKind.i64.wrap ((a : Int) + (b : Int)) = (sab : Int) := by rw [IntKind.wrap_i64]; omega
  have f1 : IntKind.u64.wrap (sab : Int) = (sab : Int) := by rw [IntKind.wrap_u64]; omega
  have f2 : ((sab : Int) / 2) = (mid : Int) := by omega
  have f3 : IntKind.u64.wrap (mid : Int) = (mid : Int) := by rw [IntKind.wrap_u64]; omega
  have f4 : IntKind.i64.wrap (mid : Int) = (mid : Int) := by rw [IntKind.wrap_i64]; omega
  obtain ⟨n, hn⟩ : ∃ n, mid + m = n := ⟨_, rfl⟩
  have f5 : IntKind.i64.wrap ((mid : Int) + (m : Int)) = (n : Int) := by rw [IntKind.wrap_i64]; omega
  have f6 : IntKind.i64.wrap ((n : Int) - 1) = (p : Int) := by rw [IntKind.wrap_i64]; omega
  have gm : decide ((mid : Int) < (m : Int)) = true := decide_eq_true (by omega)
  have r6 : IntKind.i64.wrap ((n : Int) - (b : Int)) = (lo : Int) := by rw [IntKind.wrap_i64]; omega
  have r0 : IntKind.i64.wrap ((m : Int) - (a : Int)) = ((m - a : Nat) : Int) := by rw [IntKind.wrap_i64]; omega
  obtain ⟨q0, hq0⟩ : ∃ q, m - a = q := ⟨_, rfl⟩
  rw [hq0] at r0
  have r1 : IntKind.i64.wrap ((b : Int) - (m : Int)) = ((b - m : Nat) : Int) := by rw [IntKind.wrap_i64]; omega
  obtain ⟨q1, hq1⟩ : ∃ q, b - m = q := ⟨_, rfl⟩
  rw [hq1] at r1
  have r2 : ((q0 : Int) == 1) = false := by rw [beq_eq_false_iff_ne]; omega
  have r3 : ¬ (q0 = 1) := by omega
  have r4 : ((q1 : Int) == 1) = false := by rw [beq_eq_false_iff_ne]; omega
  have r5 : ¬ (q1 = 1) := by omega
  have HPN : Hid (p + 1 = n) := hid (by omega)
  have HSAB : Hid (b ≤ N) := hid (by omega)
  have HMM : Hid (a + b = 2 * mid ∨ a + b = 2 * mid + 1) := hid (by omega)
  subst hhi
  clear hcmp hN hD hex hey hDe S hfx hfy hx2 hy2 hq0 hq1 hn hsab hmid hp ha hm hb hB hlo
  go_enter FG, Try.ntmps194
  go_wp2_with fail
  go_loopw [20, 21] (fun s t wr => ∃ i j : Nat, s = .int .i64 i ∧ t = .int .i64 j ∧ lo ≤ i ∧ i ≤ j ∧ j ≤ mid ∧ Hid (i = lo ∨ D[p - (i - 1)]!.rank ≤ D[i - 1]!.rank) ∧ Hid (j = mid ∨ D[j]!.rank < D[p - j]!.rank) ∧ Hid (SWK Rl.enc kc w0 blk off D wr)) (fun s t _ => (intOf t).toNat - (intOf s).toNat)
  case atStart => exact ⟨_, _, rfl, rfl, Nat.le_refl _, HL.out.2.1, Nat.le_refl _, hid (Or.inl rfl), hid (Or.inl rfl), S0⟩
  case round =>
    have HCA := hid hcase
    clear S0 r0 r1 r2 r3 r4 r5 f0 f1 f2 f3 f4 f5 f6 gm hcase
    obtain ⟨i, j, rfl, rfl, h1, h2, h3, HI, HJ, S1⟩ := hrel
    obtain ⟨l1, l2, l3, l4, l5, l6, l7, l8, l9⟩ := HL.out
    have hDs := HDD.out
    have hNs := HNN.out
    have hbN := HSAB.out
    by_cases hij : i < j
    · have g0 : decide ((i : Int) < (j : Int)) = true := decide_eq_true (by omega)
      have e0 : IntKind.i64.wrap ((i : Int) + (j : Int)) = ((i + j : Nat) : Int) := by rw [IntKind.wrap_i64]; omega
      obtain ⟨s, hs⟩ : ∃ s, i + j = s := ⟨_, rfl⟩
      rw [hs] at e0
      have e1 : IntKind.u64.wrap (s : Int) = (s : Int) := by rw [IntKind.wrap_u64]; omega
      obtain ⟨h, hh⟩ : ∃ h, s / 2 = h := ⟨_, rfl⟩
      have e2 : ((s : Int) / 2) = (h : Int) := by omega
      have e3 : IntKind.u64.wrap (h : Int) = (h : Int) := by rw [IntKind.wrap_u64]; omega
      have e4 : IntKind.i64.wrap (h : Int) = (h : Int) := by rw [IntKind.wrap_i64]; omega
      obtain ⟨g, hg⟩ : ∃ g, p - h = g := ⟨_, rfl⟩
      have hpq : g + h = p ∧ g < N ∧ h < N := by omega
      have e5 : IntKind.i64.wrap ((p : Int) - (h : Int)) = (g : Int) := by rw [IntKind.wrap_i64]; omega
      have ea : ((h : Int)).toNat = h := by omega
      have pa : (0 : Int) ≤ (h : Int) := by omega
      have ba : (h : Int) < (N : Int) := by omega
      have ec : ((g : Int)).toNat = g := by omega
      have pc : (0 : Int) ≤ (g : Int) := by omega
      have bc : (g : Int) < (N : Int) := by omega
      obtain ⟨x, hx⟩ : ∃ x, x = D[g]! := ⟨_, rfl⟩
      obtain ⟨y, hy⟩ : ∃ y, y = D[h]! := ⟨_, rfl⟩
      have la := S1.out.ld R (by omega) P h (by omega)
      have lb := S1.out.ld R (by omega) P g (by omega)
      rw [← hy] at la
      rw [← hx] at lb
      have hc := S1.out.cmp HC.out hDs x y
      have HX := hid hx
      have HY := hid hy
      have h4 : i ≤ h := by omega
      have h5 : h < j := by omega
      clear hx hy hDs hNs hs hh l1 l2 l3 l4 l5 l6 l7 l8 l9 hg hbN
      by_cases hv : cf x y < 0
      · have hd : decide (cf x y < 0) = true := decide_eq_true hv
        have HV : Hid (D[h]!.rank < D[p - h]!.rank) := hid (by rw [show p - h = g by omega, ← HX.out, ← HY.out]; exact (rank_lt x y).1 hv)
        clear hpq
        go_wp2_with fail
        go_quiet_grown (first | (go_at_fn 110; refine Calls.grown_of (hc _ _)))
        have S2 : Hid (SWK Rl.enc kc w0 blk off D (grow (wr.drewN nq) osq)) := hid (S1.out.grown nq osq)
        clear la lb hc S1
        generalize grow (wr.drewN nq) osq = w2 at S2 ⊢
        clear nq osq
        go_wp2_with fail
        go_roundw
        case rel => exact ⟨i, h, rfl, rfl, h1, h4, by omega, HI, hid (Or.inr HV.out), S2⟩
        case measure => simp [intOf]; omega
      · have hd : decide (cf x y < 0) = false := decide_eq_false hv
        have HV : Hid (D[p - (h + 1 - 1)]!.rank ≤ D[h + 1 - 1]!.rank) := hid (by rw [Nat.add_sub_cancel, show p - h = g by omega, ← HX.out, ← HY.out]; exact Int.not_lt.1 (fun hq => hv ((rank_lt x y).2 hq)))
        clear hpq
        go_wp2_with fail
        go_quiet_grown (first | (go_at_fn 110; refine Calls.grown_of (hc _ _)))
        have S2 : Hid (SWK Rl.enc kc w0 blk off D (grow (wr.drewN nq) osq)) := hid (S1.out.grown nq osq)
        clear la lb hc S1
        generalize grow (wr.drewN nq) osq = w2 at S2 ⊢
        clear nq osq
        go_wp2_with fail
        go_roundw
        case rel => exact ⟨h + 1, j, by go_num, rfl, by omega, by omega, h3, hid (Or.inr HV.out), HJ, S2⟩
        case measure => simp [intOf]; omega
    · obtain rfl : i = j := by omega
      obtain ⟨s, rfl⟩ : ∃ s, s = i := ⟨_, rfl⟩
      obtain ⟨t, ht⟩ : ∃ t, n - s = t := ⟨_, rfl⟩
      have hpn := HPN.out
      have hmm := HMM.out
      have hcase := HCA.out
      have hxl := HXL.out
      have hyl := HYL.out
      have hal := HAL.out
      have hbl := HBL.out
      have hx2 := HX2.out
      have hy2 := HY2.out
      have e5 : IntKind.i64.wrap ((n : Int) - (s : Int)) = (t : Int) := by rw [IntKind.wrap_i64]; omega
      have hcut := Srt.cut_both Rl.rank x y HFX.out HFY.out (s - a) (t - m) (by omega) (by omega) (by
        by_cases c1 : s = a
        · exact Or.inl (by omega)
        by_cases c2 : t = b
        · exact Or.inr (Or.inl (by omega))
        have c3 := HI.out.resolve_left (by omega)
        rw [HEX.out (s - 1) (by omega) (by omega), HEY.out (p - (s - 1)) (by omega) (by omega)] at c3
        refine Or.inr (Or.inr ?_)
        rw [show t - m = p - (s - 1) - m by omega, show s - a - 1 = s - 1 - a by omega]
        exact c3) (by
        by_cases c1 : t = m
        · exact Or.inl (by omega)
        by_cases c2 : s = m
        · exact Or.inr (Or.inl (by omega))
        have c3 := HJ.out.resolve_left (by omega)
        rw [HEX.out s (by omega) (by omega), HEY.out (p - s) (by omega) (by omega)] at c3
        refine Or.inr (Or.inr ?_)
        rw [show t - m - 1 = p - s - m by omega]
        exact c3)
      have S1' := S1.out
      rw [HDE.out] at S1'
      have hf1 := Srt.falls_take Rl.rank x HFX.out (s - a)
      have hf2 := Srt.falls_drop Rl.rank x HFX.out (s - a)
      have hf3 := Srt.falls_take Rl.rank y HFY.out (t - m)
      have hf4 := Srt.falls_drop Rl.rank y HFY.out (t - m)
      obtain ⟨x1, x2, hxx, k1, k2, ex1, ex2⟩ : ∃ x1 x2, x1 ++ x2 = x ∧ x1.length = s - a ∧ x2.length = m - s ∧ x.take (s - a) = x1 ∧ x.drop (s - a) = x2 := ⟨_, _, List.take_append_drop (s - a) x, by rw [List.length_take]; omega, by rw [List.length_drop]; omega, rfl, rfl⟩
      obtain ⟨y1, y2, hyy, k3, k4, ey1, ey2⟩ : ∃ y1 y2, y1 ++ y2 = y ∧ y1.length = t - m ∧ y2.length = b - t ∧ y.take (t - m) = y1 ∧ y.drop (t - m) = y2 := ⟨_, _, List.take_append_drop (t - m) y, by rw [List.length_take]; omega, by rw [List.length_drop]; omega, rfl, rfl⟩
      rw [ex1, ex2, ey1, ey2] at hcut
      rw [ex1] at hf1
      rw [ex2] at hf2
      rw [ey1] at hf3
      rw [ey2] at hf4
      obtain ⟨w1, rfl⟩ : ∃ w1, w1 = wr := ⟨_, rfl⟩
      have S1 : Hid (SWK Rl.enc kc w0 blk off (A ++ (x1 ++ (x2 ++ (y1 ++ (y2 ++ B))))).toArray w1) := hid (by
        rw [← hxx, ← hyy] at S1'
        simpa only [List.append_assoc] using S1')
      have hcut := hid hcut
      have hf1 := hid hf1
      have hf2 := hid hf2
      have hf3 := hid hf3
      have hf4 := hid hf4
      have hrest : s ≤ m ∧ s ≤ mid ∧ a ≤ s ∧ t ≤ b ∧ m ≤ t ∧ t + s = mid + m := by omega
      have k5 : x1.length + x2.length = x.length := by rw [← hxx, List.length_append]
      have k6 : y1.length + y2.length = y.length := by rw [← hyy, List.length_append]
      clear S1' ex1 ex2 ey1 ey2 hxx hyy HI HJ HEX HEY HFX HFY HDE HDD HNN hDs hNs
      clear h1 h2 h3 hij
      by_cases q1 : s < m
      · by_cases q2 : s < mid
        · by_cases q3 : a < s
          · by_cases q4 : t < b
            · skip
              first
              | (exfalso; omega)
              | (
                  have g0 : decide ((s : Int) < (m : Int)) = true := decide_eq_true (by omega)
                  have g1 : decide ((m : Int) < (t : Int)) = true := decide_eq_true (by omega)
                  have g2 : decide ((a : Int) < (s : Int)) = true := decide_eq_true (by omega)
                  have g3 : decide ((s : Int) < (mid : Int)) = true := decide_eq_true (by omega)
                  have g4 : decide ((mid : Int) < (t : Int)) = true := decide_eq_true (by omega)
                  have g5 : decide ((t : Int) < (b : Int)) = true := decide_eq_true (by omega)
                  have HC1 := hid (HROT.out s m t (A ++ x1) x2 y1 (y2 ++ B) w1 (by simp only [List.length_append]; omega) (by rw [List.length_append]; omega) (by omega) (by omega) (by omega) (by omega) (by have := S1.out; simpa only [List.append_assoc] using this))
                  go_wp2_with fail
                  refine HC1.out.mono ?_
                  rintro e w2 ⟨rfl, hs2⟩
                  have S2 : Hid (SWK Rl.enc kc w0 blk off (A ++ (x1 ++ (y1 ++ (x2 ++ (y2 ++ B))))).toArray w2) := hid (by simpa only [List.append_assoc] using hs2)
                  clear hs2 HC1 S1
                  have HC2 := hid (HREC.out a s mid A x1 y1 (x2 ++ (y2 ++ B)) w2 (by omega) hal (by omega) (by omega) (by simp only [List.length_append]; omega) (by omega) (by omega) hf1.out hf3.out S2.out)
                  go_wp2_with fail
                  refine HC2.out.mono ?_
                  rintro e w3 ⟨rfl, hs3⟩
                  have S3 := hid hs3
                  clear hs3 HC2 S2
                  have HC3 := hid (HREC.out mid t b (A ++ Srt.order Rl.rank (x1 ++ y1)) x2 y2 B w3 (by omega) (by rw [List.length_append, Srt.order_length, List.length_append]; omega) (by omega) (by omega) (by omega) (by omega) (by omega) hf2.out hf4.out (by have := S3.out; simpa only [List.append_assoc] using this))
                  go_wp2_with fail
                  refine HC3.out.mono ?_
                  rintro e w4 ⟨rfl, hs4⟩
                  have S4 : Hid (SWK Rl.enc kc w0 blk off (A ++ (Srt.order Rl.rank (x1 ++ y1) ++ (Srt.order Rl.rank (x2 ++ y2) ++ B))).toArray w4) := hid (by simpa only [List.append_assoc] using hs4)
                  clear hs4 HC3 S3
                  go_wp2_with fail
                  go_end0
                  refine ⟨rfl, ?_⟩
                  have := S4.out
                  rw [← List.append_assoc (Srt.order Rl.rank (x1 ++ y1)), hcut.out] at this
                  exact this)
            · skip
              first
              | (exfalso; omega)
              | (
                  have g0 : decide ((s : Int) < (m : Int)) = true := decide_eq_true (by omega)
                  have g1 : decide ((m : Int) < (t : Int)) = true := decide_eq_true (by omega)
                  have g2 : decide ((a : Int) < (s : Int)) = true := decide_eq_true (by omega)
                  have g3 : decide ((s : Int) < (mid : Int)) = true := decide_eq_true (by omega)
                  have g4 : decide ((mid : Int) < (t : Int)) = true := decide_eq_true (by omega)
                  have g5 : decide ((t : Int) < (b : Int)) = false := decide_eq_false (by omega)
                  have HC1 := hid (HROT.out s m t (A ++ x1) x2 y1 (y2 ++ B) w1 (by simp only [List.length_append]; omega) (by rw [List.length_append]; omega) (by omega) (by omega) (by omega) (by omega) (by have := S1.out; simpa only [List.append_assoc] using this))
                  go_wp2_with fail
                  refine HC1.out.mono ?_
                  rintro e w2 ⟨rfl, hs2⟩
                  have S2 : Hid (SWK Rl.enc kc w0 blk off (A ++ (x1 ++ (y1 ++ (x2 ++ (y2 ++ B))))).toArray w2) := hid (by simpa only [List.append_assoc] using hs2)
                  clear hs2 HC1 S1
                  have HC2 := hid (HREC.out a s mid A x1 y1 (x2 ++ (y2 ++ B)) w2 (by omega) hal (by omega) (by omega) (by simp only [List.length_append]; omega) (by omega) (by omega) hf1.out hf3.out S2.out)
                  go_wp2_with fail
                  refine HC2.out.mono ?_
                  rintro e w3 ⟨rfl, hs3⟩
                  have S3 := hid hs3
                  clear hs3 HC2 S2
                  have e6 : y2 = [] := List.length_eq_zero_iff.1 (by omega)
                  have S4 : Hid (SWK Rl.enc kc w0 blk off (A ++ (Srt.order Rl.rank (x1 ++ y1) ++ (Srt.order Rl.rank (x2 ++ y2) ++ B))).toArray w3) := hid (by
                    have e7 : Srt.order Rl.rank (x2 ++ y2) = x2 ++ y2 := Srt.order_self Rl.rank _ (by rw [e6]; simpa using hf2.out)
                    rw [e7, List.append_assoc]
                    exact S3.out)
                  obtain ⟨w4, rfl⟩ : ∃ w4, w4 = w3 := ⟨_, rfl⟩
                  clear S3
                  go_wp2_with fail
                  go_end0
                  refine ⟨rfl, ?_⟩
                  have := S4.out
                  rw [← List.append_assoc (Srt.order Rl.rank (x1 ++ y1)), hcut.out] at this
                  exact this)
          · by_cases q4 : t < b
            · skip
              first
              | (exfalso; omega)
              | (
                  have g0 : decide ((s : Int) < (m : Int)) = true := decide_eq_true (by omega)
                  have g1 : decide ((m : Int) < (t : Int)) = true := decide_eq_true (by omega)
                  have g2 : decide ((a : Int) < (s : Int)) = false := decide_eq_false (by omega)
                  have g3 : decide ((s : Int) < (mid : Int)) = true := decide_eq_true (by omega)
                  have g4 : decide ((mid : Int) < (t : Int)) = true := decide_eq_true (by omega)
                  have g5 : decide ((t : Int) < (b : Int)) = true := decide_eq_true (by omega)
                  have HC1 := hid (HROT.out s m t (A ++ x1) x2 y1 (y2 ++ B) w1 (by simp only [List.length_append]; omega) (by rw [List.length_append]; omega) (by omega) (by omega) (by omega) (by omega) (by have := S1.out; simpa only [List.append_assoc] using this))
                  go_wp2_with fail
                  refine HC1.out.mono ?_
                  rintro e w2 ⟨rfl, hs2⟩
                  have S2 : Hid (SWK Rl.enc kc w0 blk off (A ++ (x1 ++ (y1 ++ (x2 ++ (y2 ++ B))))).toArray w2) := hid (by simpa only [List.append_assoc] using hs2)
                  clear hs2 HC1 S1
                  have e8 : x1 = [] := List.length_eq_zero_iff.1 (by omega)
                  have S3 : Hid (SWK Rl.enc kc w0 blk off (A ++ (Srt.order Rl.rank (x1 ++ y1) ++ (x2 ++ (y2 ++ B)))).toArray w2) := hid (by
                    have e7 : Srt.order Rl.rank (x1 ++ y1) = x1 ++ y1 := Srt.order_self Rl.rank _ (by rw [e8]; simpa using hf3.out)
                    rw [e7, List.append_assoc]
                    exact S2.out)
                  obtain ⟨w3, rfl⟩ : ∃ w3, w3 = w2 := ⟨_, rfl⟩
                  clear S2
                  have HC3 := hid (HREC.out mid t b (A ++ Srt.order Rl.rank (x1 ++ y1)) x2 y2 B w3 (by omega) (by rw [List.length_append, Srt.order_length, List.length_append]; omega) (by omega) (by omega) (by omega) (by omega) (by omega) hf2.out hf4.out (by have := S3.out; simpa only [List.append_assoc] using this))
                  go_wp2_with fail
                  refine HC3.out.mono ?_
                  rintro e w4 ⟨rfl, hs4⟩
                  have S4 : Hid (SWK Rl.enc kc w0 blk off (A ++ (Srt.order Rl.rank (x1 ++ y1) ++ (Srt.order Rl.rank (x2 ++ y2) ++ B))).toArray w4) := hid (by simpa only [List.append_assoc] using hs4)
                  clear hs4 HC3 S3
                  go_wp2_with fail
                  go_end0
                  refine ⟨rfl, ?_⟩
                  have := S4.out
                  rw [← List.append_assoc (Srt.order Rl.rank (x1 ++ y1)), hcut.out] at this
                  exact this)
            · skip
              first
              | (exfalso; omega)
              | (
                  have g0 : decide ((s : Int) < (m : Int)) = true := decide_eq_true (by omega)
                  have g1 : decide ((m : Int) < (t : Int)) = true := decide_eq_true (by omega)
                  have g2 : decide ((a : Int) < (s : Int)) = false := decide_eq_false (by omega)
                  have g3 : decide ((s : Int) < (mid : Int)) = true := decide_eq_true (by omega)
                  have g4 : decide ((mid : Int) < (t : Int)) = true := decide_eq_true (by omega)
                  have g5 : decide ((t : Int) < (b : Int)) = false := decide_eq_false (by omega)
                  have HC1 := hid (HROT.out s m t (A ++ x1) x2 y1 (y2 ++ B) w1 (by simp only [List.length_append]; omega) (by rw [List.length_append]; omega) (by omega) (by omega) (by omega) (by omega) (by have := S1.out; simpa only [List.append_assoc] using this))
                  go_wp2_with fail
                  refine HC1.out.mono ?_
                  rintro e w2 ⟨rfl, hs2⟩
                  have S2 : Hid (SWK Rl.enc kc w0 blk off (A ++ (x1 ++ (y1 ++ (x2 ++ (y2 ++ B))))).toArray w2) := hid (by simpa only [List.append_assoc] using hs2)
                  clear hs2 HC1 S1
                  have e8 : x1 = [] := List.length_eq_zero_iff.1 (by omega)
                  have S3 : Hid (SWK Rl.enc kc w0 blk off (A ++ (Srt.order Rl.rank (x1 ++ y1) ++ (x2 ++ (y2 ++ B)))).toArray w2) := hid (by
                    have e7 : Srt.order Rl.rank (x1 ++ y1) = x1 ++ y1 := Srt.order_self Rl.rank _ (by rw [e8]; simpa using hf3.out)
                    rw [e7, List.append_assoc]
                    exact S2.out)
                  obtain ⟨w3, rfl⟩ : ∃ w3, w3 = w2 := ⟨_, rfl⟩
                  clear S2
                  have e6 : y2 = [] := List.length_eq_zero_iff.1 (by omega)
                  have S4 : Hid (SWK Rl.enc kc w0 blk off (A ++ (Srt.order Rl.rank (x1 ++ y1) ++ (Srt.order Rl.rank (x2 ++ y2) ++ B))).toArray w3) := hid (by
                    have e7 : Srt.order Rl.rank (x2 ++ y2) = x2 ++ y2 := Srt.order_self Rl.rank _ (by rw [e6]; simpa using hf2.out)
                    rw [e7, List.append_assoc]
                    exact S3.out)
                  obtain ⟨w4, rfl⟩ : ∃ w4, w4 = w3 := ⟨_, rfl⟩
                  clear S3
                  go_wp2_with fail
                  go_end0
                  refine ⟨rfl, ?_⟩
                  have := S4.out
                  rw [← List.append_assoc (Srt.order Rl.rank (x1 ++ y1)), hcut.out] at this
                  exact this)
        · skip
          first
          | (exfalso; omega)
          | (
              have g0 : decide ((s : Int) < (m : Int)) = true := decide_eq_true (by omega)
              have g1 : decide ((m : Int) < (t : Int)) = false := decide_eq_false (by omega)
              have g2 : decide ((a : Int) < (s : Int)) = true := decide_eq_true (by omega)
              have g3 : decide ((s : Int) < (mid : Int)) = false := decide_eq_false (by omega)
              have g4 : decide ((mid : Int) < (t : Int)) = true := decide_eq_true (by omega)
              have g5 : decide ((t : Int) < (b : Int)) = true := decide_eq_true (by omega)
              have e9 : y1 = [] := List.length_eq_zero_iff.1 (by omega)
              have S2 : Hid (SWK Rl.enc kc w0 blk off (A ++ (x1 ++ (y1 ++ (x2 ++ (y2 ++ B))))).toArray w1) := hid (by have := S1.out; rw [e9] at this ⊢; simpa using this)
              obtain ⟨w2, rfl⟩ : ∃ w2, w2 = w1 := ⟨_, rfl⟩
              clear S1
              have e8 : y1 = [] := List.length_eq_zero_iff.1 (by omega)
              have S3 : Hid (SWK Rl.enc kc w0 blk off (A ++ (Srt.order Rl.rank (x1 ++ y1) ++ (x2 ++ (y2 ++ B)))).toArray w2) := hid (by
                have e7 : Srt.order Rl.rank (x1 ++ y1) = x1 ++ y1 := Srt.order_self Rl.rank _ (by rw [e8]; simpa using hf1.out)
                rw [e7, List.append_assoc]
                exact S2.out)
              obtain ⟨w3, rfl⟩ : ∃ w3, w3 = w2 := ⟨_, rfl⟩
              clear S2
              have HC3 := hid (HREC.out mid t b (A ++ Srt.order Rl.rank (x1 ++ y1)) x2 y2 B w3 (by omega) (by rw [List.length_append, Srt.order_length, List.length_append]; omega) (by omega) (by omega) (by omega) (by omega) (by omega) hf2.out hf4.out (by have := S3.out; simpa only [List.append_assoc] using this))
              go_wp2_with fail
              refine HC3.out.mono ?_
              rintro e w4 ⟨rfl, hs4⟩
              have S4 : Hid (SWK Rl.enc kc w0 blk off (A ++ (Srt.order Rl.rank (x1 ++ y1) ++ (Srt.order Rl.rank (x2 ++ y2) ++ B))).toArray w4) := hid (by simpa only [List.append_assoc] using hs4)
              clear hs4 HC3 S3
              go_wp2_with fail
              go_end0
              refine ⟨rfl, ?_⟩
              have := S4.out
              rw [← List.append_assoc (Srt.order Rl.rank (x1 ++ y1)), hcut.out] at this
              exact this)
      · by_cases q2 : s < mid
        · skip
          first
          | (exfalso; omega)
          | (
              have g0 : decide ((s : Int) < (m : Int)) = false := decide_eq_false (by omega)
              have g1 : decide ((m : Int) < (t : Int)) = true := decide_eq_true (by omega)
              have g2 : decide ((a : Int) < (s : Int)) = true := decide_eq_true (by omega)
              have g3 : decide ((s : Int) < (mid : Int)) = true := decide_eq_true (by omega)
              have g4 : decide ((mid : Int) < (t : Int)) = false := decide_eq_false (by omega)
              have g5 : decide ((t : Int) < (b : Int)) = true := decide_eq_true (by omega)
              have e9 : x2 = [] := List.length_eq_zero_iff.1 (by omega)
              have S2 : Hid (SWK Rl.enc kc w0 blk off (A ++ (x1 ++ (y1 ++ (x2 ++ (y2 ++ B))))).toArray w1) := hid (by have := S1.out; rw [e9] at this ⊢; simpa using this)
              obtain ⟨w2, rfl⟩ : ∃ w2, w2 = w1 := ⟨_, rfl⟩
              clear S1
              have HC2 := hid (HREC.out a s mid A x1 y1 (x2 ++ (y2 ++ B)) w2 (by omega) hal (by omega) (by omega) (by simp only [List.length_append]; omega) (by omega) (by omega) hf1.out hf3.out S2.out)
              go_wp2_with fail
              refine HC2.out.mono ?_
              rintro e w3 ⟨rfl, hs3⟩
              have S3 := hid hs3
              clear hs3 HC2 S2
              have e6 : x2 = [] := List.length_eq_zero_iff.1 (by omega)
              have S4 : Hid (SWK Rl.enc kc w0 blk off (A ++ (Srt.order Rl.rank (x1 ++ y1) ++ (Srt.order Rl.rank (x2 ++ y2) ++ B))).toArray w3) := hid (by
                have e7 : Srt.order Rl.rank (x2 ++ y2) = x2 ++ y2 := Srt.order_self Rl.rank _ (by rw [e6]; simpa using hf4.out)
                rw [e7, List.append_assoc]
                exact S3.out)
              obtain ⟨w4, rfl⟩ : ∃ w4, w4 = w3 := ⟨_, rfl⟩
              clear S3
              go_wp2_with fail
              go_end0
              refine ⟨rfl, ?_⟩
              have := S4.out
              rw [← List.append_assoc (Srt.order Rl.rank (x1 ++ y1)), hcut.out] at this
              exact this)
        · skip
          first
          | (exfalso; omega)
          | (
              have g0 : decide ((s : Int) < (m : Int)) = false := decide_eq_false (by omega)
              have g1 : decide ((m : Int) < (t : Int)) = false := decide_eq_false (by omega)
              have g2 : decide ((a : Int) < (s : Int)) = true := decide_eq_true (by omega)
              have g3 : decide ((s : Int) < (mid : Int)) = false := decide_eq_false (by omega)
              have g4 : decide ((mid : Int) < (t : Int)) = false := decide_eq_false (by omega)
              have g5 : decide ((t : Int) < (b : Int)) = true := decide_eq_true (by omega)
              have e9 : x2 = [] := List.length_eq_zero_iff.1 (by omega)
              have S2 : Hid (SWK Rl.enc kc w0 blk off (A ++ (x1 ++ (y1 ++ (x2 ++ (y2 ++ B))))).toArray w1) := hid (by have := S1.out; rw [e9] at this ⊢; simpa using this)
              obtain ⟨w2, rfl⟩ : ∃ w2, w2 = w1 := ⟨_, rfl⟩
              clear S1
              have e8 : y1 = [] := List.length_eq_zero_iff.1 (by omega)
              have S3 : Hid (SWK Rl.enc kc w0 blk off (A ++ (Srt.order Rl.rank (x1 ++ y1) ++ (x2 ++ (y2 ++ B)))).toArray w2) := hid (by
                have e7 : Srt.order Rl.rank (x1 ++ y1) = x1 ++ y1 := Srt.order_self Rl.rank _ (by rw [e8]; simpa using hf1.out)
                rw [e7, List.append_assoc]
                exact S2.out)
              obtain ⟨w3, rfl⟩ : ∃ w3, w3 = w2 := ⟨_, rfl⟩
              clear S2
              have e6 : x2 = [] := List.length_eq_zero_iff.1 (by omega)
              have S4 : Hid (SWK Rl.enc kc w0 blk off (A ++ (Srt.order Rl.rank (x1 ++ y1) ++ (Srt.order Rl.rank (x2 ++ y2) ++ B))).toArray w3) := hid (by
                have e7 : Srt.order Rl.rank (x2 ++ y2) = x2 ++ y2 := Srt.order_self Rl.rank _ (by rw [e6]; simpa using hf4.out)
                rw [e7, List.append_assoc]
                exact S3.out)
              obtain ⟨w4, rfl⟩ : ∃ w4, w4 = w3 := ⟨_, rfl⟩
              clear S3
              go_wp2_with fail
              go_end0
              refine ⟨rfl, ?_⟩
              have := S4.out
              rw [← List.append_assoc (Srt.order Rl.rank (x1 ++ y1)), hcut.out] at this
              exact this)
end C12
end Go.Proofs.Ytmmmaldpalhjeaa
