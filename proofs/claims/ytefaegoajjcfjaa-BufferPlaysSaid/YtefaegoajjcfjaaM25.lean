/- Walks of layer 25 (buffer): the law on spans taken once, in order; no condition. -/
import Derived.Test.YtefaegoajjcfjaaH25
import Derived.Test.YtefaegoajjcfjaaI25
import Derived.Test.YtefaegoajjcfjaaOw
import Derived.Test.YtefaegoajjcfjaaMv
namespace Go.Proofs.Ytefaegoajjcfjaa
open Go.RowKit Go.Peri
namespace C25

/-- A buffer, what was put, and what was taken, in blocks unlike one another. -/
structure OnceQ (B g rm k : Nat) (vin vout : Value) (ins : List Sp) (lost : Nat) (w : World) : Prop where
  ex : ∃ (h : Option Nat) (l outs : List Sp), BufIs w g h rm l lost ∧ outs ++ l = ins ∧ w.ownsRow B 79 11 vin ins.length (ins.flatMap Sp.enc) ∧ w.ownsRow B 79 11 vout outs.length (outs.flatMap Sp.enc) ∧
    Disj (own g h) (blocks vin) ∧ Disj (own g h) (blocks vout) ∧ Disj (blocks vin) (blocks vout)
  len : ins.length + lost ≤ k
theorem moved_moves {N g : Nat} {h h' : Option Nat} {w : World} (hm : Moved w h h') (hN : N ≤ w.heap.size) : Moves N (own g h) (own g h') := by
  intro k hk
  simp only [own, List.mem_cons] at hk ⊢
  rcases hk with rfl | hk
  · exact .inl (.inl rfl)
  · rcases hm with rfl | ⟨b, rfl, hb⟩
    · exact .inl (.inr hk)
    · simp at hk; exact .inr (by omega)
theorem BufIs.keep {S : List Nat} {w w' : World} {g : Nat} {h : Option Nat} {room : Nat} {l : List Sp} {lost : Int} (hb : BufIs w g h room l lost) (ho : Only S w w') (hs : Disj (own g h) S) : BufIs w' g h room l lost := hb.only ho hs

/-- Behind a take that was appended. -/
theorem OnceQ.took {B g rm k n : Nat} {vin vout v' : Value} {ins : List Sp} {lost : Nat} {w w1 w2 : World} {h : Option Nat} {l outs : List Sp} (j : Nat)
    (hi : outs ++ l = ins) (o1 : w.ownsRow B 79 11 vin ins.length (ins.flatMap Sp.enc))
    (d1 : Disj (own g h) (blocks vin)) (d2 : Disj (own g h) (blocks vout)) (d3 : Disj (blocks vin) (blocks vout)) (hlen : ins.length + lost ≤ k) (hn : k ≤ n)
    (ho1 : Only (own g h) w w1) (hb1 : BufIs w1 g h rm (l.drop j) lost) (own2 : w2.ownsRow B 79 11 v' (outs.length + (l.take j).length) (outs.flatMap Sp.enc ++ (l.take j).flatMap Sp.enc))
    (ho2 : Only (blocks vout) w1 w2) (hm : Moves w1.heap.size (blocks vout) (blocks v')) : OnceQ B g rm n vin v' ins lost w2 := by
  refine ⟨⟨h, l.drop j, outs ++ l.take j, hb1.keep ho2 d2, ?_, owns_keep (owns_keep o1 ho1 d1.symm) ho2 d3, ?_, d1, ?_, ?_⟩, by omega⟩
  · rw [List.append_assoc, List.take_append_drop, hi]
  · have := own2
    simpa using this
  · exact (d2.symm.move (fun q hq => hb1.lt q hq) hm).symm
  · exact (d3.symm.move (fun q hq => Nat.lt_of_lt_of_le (owns_lt o1 q hq) ho1.size) hm).symm
/-- Behind a put that found room. -/
theorem OnceQ.put {B g rm k n : Nat} {vin vout v' : Value} {ins : List Sp} {lost : Nat} {w w1 w2 : World} {h h' : Option Nat} {l outs : List Sp} (s : Sp)
    (hi : outs ++ l = ins) (o1 : w.ownsRow B 79 11 vin ins.length (ins.flatMap Sp.enc)) (o2 : w.ownsRow B 79 11 vout outs.length (outs.flatMap Sp.enc))
    (d1 : Disj (own g h) (blocks vin)) (d2 : Disj (own g h) (blocks vout)) (d3 : Disj (blocks vin) (blocks vout)) (hlen : ins.length + lost ≤ k) (hn : k + 1 ≤ n)
    (ho1 : Only (own g h) w w1) (hmv : Moved w h h') (hb1 : BufIs w1 g h' rm (l ++ [s]) lost) (own2 : w2.ownsRow B 79 11 v' (ins.length + 1) (ins.flatMap Sp.enc ++ s.enc))
    (ho2 : Only (blocks vin) w1 w2) (hm : Moves w1.heap.size (blocks vin) (blocks v')) : OnceQ B g rm n v' vout (ins ++ [s]) lost w2 := by
  have e1 : Disj (own g h') (blocks vin) := d1.move (owns_lt o1) (moved_moves hmv (Nat.le_refl _))
  have e2 : Disj (own g h') (blocks vout) := d2.move (owns_lt o2) (moved_moves hmv (Nat.le_refl _))
  refine ⟨⟨h', l ++ [s], outs, hb1.keep ho2 e1, ?_, ?_, owns_keep (owns_keep o2 ho1 d2.symm) ho2 d3.symm, ?_, e2, ?_⟩, ?_⟩
  · rw [← List.append_assoc, hi]
  · have := own2
    simpa using this
  · exact (e1.symm.move (fun q hq => hb1.lt q hq) hm).symm
  · exact d3.move (fun q hq => Nat.lt_of_lt_of_le (owns_lt o2 q hq) ho1.size) hm
  · simp; omega
/-- Behind a put that found none. -/
theorem OnceQ.full {B g rm k n : Nat} {vin vout : Value} {ins : List Sp} {lost : Nat} {w w1 : World} {h h' : Option Nat} {l outs : List Sp}
    (hi : outs ++ l = ins) (o1 : w.ownsRow B 79 11 vin ins.length (ins.flatMap Sp.enc)) (o2 : w.ownsRow B 79 11 vout outs.length (outs.flatMap Sp.enc))
    (d1 : Disj (own g h) (blocks vin)) (d2 : Disj (own g h) (blocks vout)) (d3 : Disj (blocks vin) (blocks vout)) (hlen : ins.length + lost ≤ k) (hn : k + 1 ≤ n) (hk : n ≤ 300)
    (ho1 : Only (own g h) w w1) (hmv : Moved w h h') (hb1 : BufIs w1 g h' rm l (min ((lost : Int) + 1) 1099511627776)) : OnceQ B g rm n vin vout ins (lost + 1) w1 := by
  have e : min ((lost : Int) + 1) 1099511627776 = ((lost + 1 : Nat) : Int) := by omega
  rw [e] at hb1
  exact ⟨⟨h', l, outs, hb1, hi, owns_keep o1 ho1 d1.symm, owns_keep o2 ho1 d2.symm, d1.move (owns_lt o1) (moved_moves hmv (Nat.le_refl _)), d2.move (owns_lt o2) (moved_moves hmv (Nat.le_refl _)), d3⟩, by omega⟩

set_option maxRecDepth 100000 in
set_option maxHeartbeats 1000000 in
theorem once_good (room : Int) (v : Value) (l : List Mv) (W : World) (h : RowsOf (· < W.heap.size) Mv.enc 12 W v l) (hl : l.length ≤ 300) :
    Calls Try.prog 13 #[.int .i64 room, v] W fun e w' => e = .returned (.bool true) ∧ Below W.heap.size W w' := by
  obtain ⟨a, cap, rfl, hlc, hcm, _, hcell⟩ := h
  have HC := hid hcell
  have h1' : ¬ (300 : Int) < (l.length : Int) := by omega
  clear hcell hcm
  go_enter Try.func13, Try.ntmps13
  go_wp2_with fail
  refine (new_any room _).mono ?_
  rintro e w1 ⟨rfl, hb1, hs1, hB1⟩
  have HB1 := hid hb1
  have hroom : Hid ((64 < room ∧ (roomR room : Int) = 64) ∨ (¬ 64 < room ∧ 1 < room ∧ (roomR room : Int) = room) ∨ (¬ 64 < room ∧ ¬ 1 < room ∧ (roomR room : Int) = 1)) := by
    show _ ∨ _
    unfold roomR
    omega
  obtain ⟨rm, hrm⟩ : ∃ r, r = roomR room := ⟨_, rfl⟩
  rw [← hrm] at hB1 hroom
  have HQ0 : Hid (OnceQ W.heap.size W.heap.size rm 0 (.slice none 0 0) (.slice none 0 0) [] 0 w1) :=
    ⟨⟨none, [], [], hB1, rfl, World.ownsRow_nil _ _ _ _, World.ownsRow_nil _ _ _ _, fun k hk hk2 => by simp [blocks, Value.ownBlock] at hk2, fun k hk hk2 => by simp [blocks, Value.ownBlock] at hk2, fun k hk => by simp [blocks, Value.ownBlock] at hk⟩, Nat.le_refl _⟩
  clear hb1 hB1 hrm
  go_wp2_with fail
  go_loopw [6, 7, 8, 9] (fun vin vout lost i wr => ∃ (k : Nat) (ins : List Sp) (n : Nat), k ≤ l.length ∧ i = .int .i64 k ∧ lost = .int .i64 n ∧ Below W.heap.size W wr ∧ OnceQ W.heap.size W.heap.size rm k vin vout ins n wr) (fun _ _ _ i _ => l.length - (intOf i).toNat)
  case atStart => exact ⟨0, [], 0, Nat.zero_le _, rfl, rfl, HB1.out, HQ0.out⟩
  case round =>
    obtain ⟨k, ins, n, hk, rfl, rfl, hb, hq⟩ := hrel
    have HB := hid hb
    have HQ := hid hq
    clear hb hq HQ0
    by_cases hlt : k < l.length
    · obtain ⟨b, off, rfl, hpb, hc⟩ := HC.out.resolve_left (by intro e; rw [e] at hlt; simp at hlt)
      obtain ⟨c0, c1, c2, c3, c4, c5, c6, c7, c8, c9, c10, c11⟩ := Mv.cells (fun j u hu => (HB.out.cell (p := ⟨b, off + k * 12 + j, none⟩) hpb).trans (hc k hlt j u hu))
      obtain ⟨⟨h, wait, outs, hbuf, hio, o1, o2, d1, d2, d3⟩, hlen⟩ := HQ.out
      have HBUF := hid hbuf
      have HO1 := hid o1
      have HO2 := hid o2
      clear hbuf o1 o2 hc HQ
      generalize l[k] = y at c0 c1 c2 c3 c4 c5 c6 c7 c8 c9 c10 c11
      have hwait : outs.length + wait.length = ins.length := by rw [← hio, List.length_append]
      have hWs := HB.out.size
      by_cases ht : -1 < y.take
      · obtain ⟨j, hj⟩ : ∃ j, takeN y.take wait = j := ⟨_, rfl⟩
        have HT := take_any W.heap.size h rm wait n y.take wr HBUF.out
        rw [hj] at HT
        have HTT := hid HT
        clear HT hj
        go_wp2_with fail
        refine HTT.out.mono ?_
        clear HTT
        rintro e w2 ⟨a2, cap2, rfl, ho2, hb2, hown2⟩
        obtain ⟨x2, hx2⟩ : ∃ x, x = wait.take j := ⟨_, rfl⟩
        rw [← hx2] at hown2 ⊢
        have HX2 := hid hx2
        have hxl : x2.length ≤ wait.length := by rw [hx2, List.length_take]; omega
        have HC2 : Hid (Cellz (fun b => wr.heap.size ≤ b ∧ b < w2.heap.size) 11 w2 (.slice a2 x2.length cap2) x2.length (x2.flatMap Sp.enc)) := Cellz.of_owns hown2.out
        have HP2 : Hid (w2.ownsRow W.heap.size 79 11 u7 outs.length (outs.flatMap Sp.enc)) := owns_keep HO2.out ho2 d2.symm
        have hs2 := ho2.size
        have HD : Hid (Disj (own W.heap.size h) (blocks u6) ∧ Disj (own W.heap.size h) (blocks u7) ∧ Disj (blocks u6) (blocks u7)) := ⟨d1, d2, d3⟩
        clear hx2 hown2 d1 d2 d3
        go_wp2_with (at_builtin; refine wpList_pushCells_at elem71 rfl _ _ rfl W.heap.size _ _ _ rfl HP2.out rfl HC2.out (one_sp x2) ?_ ?_ ?_ ?_)
        · unfold maxLen; omega
        · omega
        · omega
        intro v3 w3 hown3 ho3 hm3
        have HQ3 : Hid (OnceQ W.heap.size W.heap.size rm (k + 1) u6 v3 ins n w3) := by
          refine OnceQ.took (n := k + 1) j hio HO1.out HD.out.1 HD.out.2.1 HD.out.2.2 hlen (by omega) ho2 hb2 ?_ ho3 hm3
          rw [← HX2.out]
          exact hown3
        have HB3 : Hid (Below W.heap.size W w3) := (HB.out.trans (HBUF.out.below ho2)).trans (ho3.below (Nat.le_trans (HB.out.trans (HBUF.out.below ho2)).size (Nat.le_refl _)) (fun q hq => (owns_bd HP2.out q hq).1))
        clear hown3 ho3 hm3 ho2 hb2 HC2 HP2 HX2
        obtain ⟨h5, l5, outs5, hbuf5, _, _, _, _, _, _⟩ := HQ3.out.ex
        have HBUF5 := hid hbuf5
        have hle5 : l5.length ≤ rm := by obtain ⟨_, _, _, _, h, _⟩ := hbuf5; exact h
        clear hbuf5
        go_wp2_with fail
        refine (len_any W.heap.size h5 rm l5 _ _ HBUF5.out).mono ?_
        rintro e w' ⟨rfl, rfl⟩
        rcases hroom.out with ⟨r1, r2⟩ | ⟨r1, r2, r3⟩ | ⟨r1, r2, r3⟩
        · have hx : ¬ (64 : Int) < (l5.length : Int) := by omega
          go_wp2_with fail
          go_roundw
          case rel => exact ⟨k + 1, ins, n, by omega, by go_num, by first | rfl | go_num, HB3.out, HQ3.out⟩
          case measure => simp [intOf]; omega
        · have hx : ¬ room < (l5.length : Int) := by omega
          go_wp2_with fail
          go_roundw
          case rel => exact ⟨k + 1, ins, n, by omega, by go_num, by first | rfl | go_num, HB3.out, HQ3.out⟩
          case measure => simp [intOf]; omega
        · have hx : ¬ (1 : Int) < (l5.length : Int) := by omega
          go_wp2_with fail
          go_roundw
          case rel => exact ⟨k + 1, ins, n, by omega, by go_num, by first | rfl | go_num, HB3.out, HQ3.out⟩
          case measure => simp [intOf]; omega
      · by_cases hf : wait.length < rm
        · have HT := put_any W.heap.size h rm wait n y.sp wr HBUF.out
          rw [decide_eq_true hf] at HT
          have HTT := hid HT
          clear HT
          go_wp2_with fail
          refine HTT.out.mono ?_
          clear HTT
          rintro e w2 ⟨rfl, ho2, h2, hmv2, hb2⟩
          have HB2 : Hid (BufIs w2 W.heap.size h2 rm (wait ++ [y.sp]) n) := by
            have := hb2
            simp only [putR, if_pos hf] at this
            exact this
          have HP2 : Hid (w2.ownsRow W.heap.size 79 11 u6 ins.length (ins.flatMap Sp.enc)) := owns_keep HO1.out ho2 d1.symm
          have hs2 := ho2.size
          have HC2 : Hid (Below W.heap.size wr w2) := HBUF.out.below ho2
          have hbw : b < wr.heap.size := by omega
          have HD : Hid (Disj (own W.heap.size h) (blocks u6) ∧ Disj (own W.heap.size h) (blocks u7) ∧ Disj (blocks u6) (blocks u7)) := ⟨d1, d2, d3⟩
          have e0 := (HC2.out.cell (p := ⟨b, off + k * 12, none⟩) hpb).trans c0
          have e1 := (HC2.out.cell (p := ⟨b, off + k * 12 + 1, none⟩) hpb).trans c1
          have e2 := (HC2.out.cell (p := ⟨b, off + k * 12 + 2, none⟩) hpb).trans c2
          have e3 := (HC2.out.cell (p := ⟨b, off + k * 12 + 3, none⟩) hpb).trans c3
          have e4 := (HC2.out.cell (p := ⟨b, off + k * 12 + 4, none⟩) hpb).trans c4
          have e5 := (HC2.out.cell (p := ⟨b, off + k * 12 + 5, none⟩) hpb).trans c5
          have e6 := (HC2.out.cell (p := ⟨b, off + k * 12 + 6, none⟩) hpb).trans c6
          have e7 := (HC2.out.cell (p := ⟨b, off + k * 12 + 7, none⟩) hpb).trans c7
          have e8 := (HC2.out.cell (p := ⟨b, off + k * 12 + 8, none⟩) hpb).trans c8
          have e9 := (HC2.out.cell (p := ⟨b, off + k * 12 + 9, none⟩) hpb).trans c9
          have e10 := (HC2.out.cell (p := ⟨b, off + k * 12 + 10, none⟩) hpb).trans c10
          clear hb2 d1 d2 d3 c0 c1 c2 c3 c4 c5 c6 c7 c8 c9 c10 c11
          go_wp2_with (at_builtin; refine wpList_push_at (w0 := w2) (T := 79) (news := y.sp.enc) elem71 rfl _ _ rfl W.heap.size _ _ _ rfl HP2.out rfl rfl rfl (by intro u hu; exact one_sp [y.sp] u (by simpa using hu)) ?_ ?_ ?_ ?_)
          · unfold maxLen; omega
          · omega
          · omega
          intro v3 w3 hown3 ho3 hm3
          have HQ3 : Hid (OnceQ W.heap.size W.heap.size rm (k + 1) v3 u7 (ins ++ [y.sp]) n w3) :=
            OnceQ.put (n := k + 1) y.sp hio HO1.out HO2.out HD.out.1 HD.out.2.1 HD.out.2.2 hlen (by omega) ho2 hmv2 HB2.out hown3 ho3 hm3
          have HB3 : Hid (Below W.heap.size W w3) := (HB.out.trans (HBUF.out.below ho2)).trans (ho3.below (Nat.le_trans (HB.out.trans (HBUF.out.below ho2)).size (Nat.le_refl _)) (fun q hq => (owns_bd HP2.out q hq).1))
          clear hown3 ho3 hm3 ho2 HB2 hmv2 HC2 HP2 e0 e1 e2 e3 e4 e5 e6 e7 e8 e9 e10
          obtain ⟨h5, l5, outs5, hbuf5, _, _, _, _, _, _⟩ := HQ3.out.ex
          have HBUF5 := hid hbuf5
          have hle5 : l5.length ≤ rm := by obtain ⟨_, _, _, _, h, _⟩ := hbuf5; exact h
          clear hbuf5
          go_wp2_with fail
          refine (len_any W.heap.size h5 rm l5 _ _ HBUF5.out).mono ?_
          rintro e w' ⟨rfl, rfl⟩
          rcases hroom.out with ⟨r1, r2⟩ | ⟨r1, r2, r3⟩ | ⟨r1, r2, r3⟩
          · have hx : ¬ (64 : Int) < (l5.length : Int) := by omega
            go_wp2_with fail
            go_roundw
            case rel => exact ⟨k + 1, ins ++ [y.sp], n, by omega, by go_num, by first | rfl | go_num, HB3.out, HQ3.out⟩
            case measure => simp [intOf]; omega
          · have hx : ¬ room < (l5.length : Int) := by omega
            go_wp2_with fail
            go_roundw
            case rel => exact ⟨k + 1, ins ++ [y.sp], n, by omega, by go_num, by first | rfl | go_num, HB3.out, HQ3.out⟩
            case measure => simp [intOf]; omega
          · have hx : ¬ (1 : Int) < (l5.length : Int) := by omega
            go_wp2_with fail
            go_roundw
            case rel => exact ⟨k + 1, ins ++ [y.sp], n, by omega, by go_num, by first | rfl | go_num, HB3.out, HQ3.out⟩
            case measure => simp [intOf]; omega
        · have HT := put_any W.heap.size h rm wait n y.sp wr HBUF.out
          rw [decide_eq_false hf] at HT
          have HTT := hid HT
          clear HT
          go_wp2_with fail
          refine HTT.out.mono ?_
          clear HTT
          rintro e w3 ⟨rfl, ho2, h2, hmv2, hb2⟩
          have HB2 : Hid (BufIs w3 W.heap.size h2 rm wait (min ((n : Int) + 1) 1099511627776)) := by
            have := hb2
            simp only [putR, if_neg hf] at this
            exact this
          have HQ3 : Hid (OnceQ W.heap.size W.heap.size rm (k + 1) u6 u7 ins (n + 1) w3) :=
            OnceQ.full (n := k + 1) hio HO1.out HO2.out d1 d2 d3 hlen (by omega) (by omega) ho2 hmv2 HB2.out
          have HB3 : Hid (Below W.heap.size W w3) := HB.out.trans (HBUF.out.below ho2)
          clear hb2 ho2 HB2 hmv2 d1 d2 d3 c0 c1 c2 c3 c4 c5 c6 c7 c8 c9 c10 c11
          obtain ⟨h5, l5, outs5, hbuf5, _, _, _, _, _, _⟩ := HQ3.out.ex
          have HBUF5 := hid hbuf5
          have hle5 : l5.length ≤ rm := by obtain ⟨_, _, _, _, h, _⟩ := hbuf5; exact h
          clear hbuf5
          go_wp2_with fail
          refine (len_any W.heap.size h5 rm l5 _ _ HBUF5.out).mono ?_
          rintro e w' ⟨rfl, rfl⟩
          rcases hroom.out with ⟨r1, r2⟩ | ⟨r1, r2, r3⟩ | ⟨r1, r2, r3⟩
          · have hx : ¬ (64 : Int) < (l5.length : Int) := by omega
            go_wp2_with fail
            go_roundw
            case rel => exact ⟨k + 1, ins, n + 1, by omega, by go_num, by first | rfl | go_num, HB3.out, HQ3.out⟩
            case measure => simp [intOf]; omega
          · have hx : ¬ room < (l5.length : Int) := by omega
            go_wp2_with fail
            go_roundw
            case rel => exact ⟨k + 1, ins, n + 1, by omega, by go_num, by first | rfl | go_num, HB3.out, HQ3.out⟩
            case measure => simp [intOf]; omega
          · have hx : ¬ (1 : Int) < (l5.length : Int) := by omega
            go_wp2_with fail
            go_roundw
            case rel => exact ⟨k + 1, ins, n + 1, by omega, by go_num, by first | rfl | go_num, HB3.out, HQ3.out⟩
            case measure => simp [intOf]; omega
    · obtain rfl : k = l.length := by omega
      obtain ⟨⟨h, wait, outs, hbuf, hio, o1, o2, d1, d2, d3⟩, hlen⟩ := HQ.out
      have HBUF := hid hbuf
      have HO1 := hid o1
      have HO2 := hid o2
      have hwait : outs.length + wait.length = ins.length := by rw [← hio, List.length_append]
      have hWs := HB.out.size
      have HD : Hid (Disj (own W.heap.size h) (blocks u6) ∧ Disj (own W.heap.size h) (blocks u7) ∧ Disj (blocks u6) (blocks u7)) := ⟨d1, d2, d3⟩
      clear hbuf o1 o2 HQ d1 d2 d3
      go_wp2_with fail
      refine (all_any W.heap.size h rm wait n _ HBUF.out).mono ?_
      rintro e w2 ⟨a2, cap2, rfl, hb2, hr2⟩
      have HB2 := hid (HB.out.trans (hb2.mono hWs))
      have HBUF2 := hid (HBUF.out.later hb2)
      have HC2 : Hid (Cellz (fun b => wr.heap.size ≤ b ∧ b < w2.heap.size) 11 w2 (.slice a2 wait.length cap2) wait.length (wait.flatMap Sp.enc)) := hr2.out.cellz Sp.enc_length
      have HP1 := hid (owns_later HO1.out hb2)
      have HP2 := hid (owns_later HO2.out hb2)
      have hs2 := hb2.size
      clear hb2 hr2
      go_wp2_with (at_builtin; refine wpList_pushCells_at elem71 rfl _ _ rfl W.heap.size _ _ _ rfl HP2.out rfl HC2.out (one_sp wait) ?_ ?_ ?_ ?_)
      · unfold maxLen; omega
      · omega
      · omega
      intro v3 w3 hown3 ho3 hm3
      have HB3 : Hid (Below W.heap.size W w3) := HB2.out.trans (ho3.below (by omega) (fun q hq => (owns_bd HP2.out q hq).1))
      have HBUF3 := hid (HBUF2.out.keep ho3 HD.out.2.1)
      have HP3 := hid (owns_keep HP1.out ho3 HD.out.2.2)
      have hs3 := ho3.size
      have hR3 : RowsOf (fun b => W.heap.size ≤ b ∧ b < w3.heap.size) Sp.enc 11 w3 v3 ins := by
        refine RowsOf.of_owns (e := 79) Sp.enc_length ?_
        rw [← hio, List.length_append, List.flatMap_append]
        first
          | exact hown3
          | (rw [hwait]; exact hown3)
      have HR3 := hid hR3
      have HI3 : Hid (RowsOf (fun b => W.heap.size ≤ b ∧ b < w3.heap.size) Sp.enc 11 w3 u6 ins) := RowsOf.of_owns (e := 79) Sp.enc_length HP3.out
      clear hown3 ho3 hm3 HC2 HP1 HP2 hR3
      go_wp2_with fail
      refine (same_list _ _ ins _ ⟨_, fun b hb => hb.2, HR3.out⟩ ⟨_, fun b hb => hb.2, HI3.out⟩ (by omega)).mono ?_
      rintro e w4 ⟨rfl, hb4⟩
      have HB4 := hid (HB3.out.trans (hb4.mono (by omega)))
      have HBUF4 := hid (HBUF3.out.later hb4)
      clear hb4
      go_wp2_with fail
      refine (lost_any W.heap.size h rm wait n _ HBUF4.out).mono ?_
      rintro e w' ⟨rfl, rfl⟩
      go_wp2_with fail
      refine (known_any _).mono ?_
      rintro e w5 ⟨rfl, hb5⟩
      have HB5 := hid (HB4.out.trans (hb5.mono HB4.out.size))
      clear hb5
      go_wp2_with fail
      go_ret
      exact ⟨rfl, HB5.out⟩

set_option maxRecDepth 100000 in
theorem once_bad (room : Int) (v : Value) (l : List Mv) (W : World) (h : RowsOf (· < W.heap.size) Mv.enc 12 W v l) (hl : 300 < l.length) :
    Calls Try.prog 13 #[.int .i64 room, v] W fun e w' => e = .returned (.bool true) ∧ Below W.heap.size W w' := by
  obtain ⟨a, cap, rfl, hlc, hcm, _⟩ := h
  have h1' : (300 : Int) < (l.length : Int) := by omega
  go_enter Try.func13, Try.ntmps13
  go_wp2_with fail
  refine (known_any _).mono ?_
  rintro e w1 ⟨rfl, hb1⟩
  go_wp2_with fail
  go_ret
  exact ⟨rfl, hb1⟩
end C25
end Go.Proofs.Ytefaegoajjcfjaa
