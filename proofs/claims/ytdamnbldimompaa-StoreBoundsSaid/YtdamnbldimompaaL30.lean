/- Walks of layer 30 (store): the document's with; no condition. -/
import Derived.Test.YtdamnbldimompaaK30
namespace Go.Proofs.Ytdamnbldimompaa
open Go.RowKit Go.Peri
open Gen (rows_of_blk flat_set set_mid get_mid map_take_snoc owns_at owns_num owns_le owns_below owns_form)
namespace C30
open Kp (ix ixS)
def WithQ (B : Nat) (W : World) (k : Kq) (s : Sp) (v : Value) (w' : World) : Prop := ∃ k' : Kq, v = kv k' ∧ k'.core = Kp.put k.core s ∧ Below W.heap.size W w' ∧ k'.At (fun b => (b < B ∨ W.heap.size ≤ b) ∧ b < w'.heap.size) w'
theorem wp_gen {P : Program} {c : Code} {Q : Exit → Act → World → Prop} {a : Act} {w : World} (h : ∀ w2, w2 = w → c.wp P Q a w2) : c.wp P Q a w := h w rfl
/-- What the boxes hold. -/
structure WBox (W : World) (k : Kq) (s : Sp) (w : World) : Prop where
  below : Below W.heap.size W w
  bk : Blk w W.heap.size #[.int .u64 k.hi, .int .u64 k.lo, .slice k.pa k.sp.length k.pcap, .bool k.spilled, .bool k.clash] 34
  bs : Blk w (W.heap.size + 1) #[.int .u64 s.hi, .int .u64 s.lo, .int .u64 s.id, .int .u64 s.up, .string s.name, .int .i64 s.status, .int .i64 s.seq, .int .i64 s.kids, .bool s.shadow, .int .i64 s.start, .int .i64 s.stop] 27
  br : Blk w (W.heap.size + 1 + 1) #[.int .u64 0, .int .u64 0, .slice none 0 0, .bool false, .bool false] 34
theorem WBox.later {W : World} {k : Kq} {s : Sp} {w w' : World} (h : WBox W k s w) (hb : Below w.heap.size w w') : WBox W k s w' := ⟨h.below.trans (hb.mono h.below.size), h.bk.later hb, h.bs.later hb, h.br.later hb⟩
theorem put_hit_eq {k : Kq} {s : Sp} {i : Nat} (hi : i < k.sp.length) (h1 : k.sp[i].id = s.id) (h2 : ∀ j (_ : j < i) (hj : j < k.sp.length), k.sp[j].id ≠ s.id) : Kp.put k.core s = { k.core with clash := k.clash || !decide (k.sp[i] = s) } := by
  have hx : ixS k.sp s.id = i := ixS_hit hi h1 h2
  unfold Kp.put
  rw [dif_pos (show ixS k.core.sp s.id < k.core.sp.length by show ixS k.sp s.id < k.sp.length; rw [hx]; exact hi)]
  subst hx
  rfl
theorem put_out_eq {k : Kq} {s : Sp} (h2 : ∀ j (hj : j < k.sp.length), k.sp[j].id ≠ s.id) : Kp.put k.core s = if 64 ≤ k.sp.length then { k.core with spilled := true } else { k.core with sp := k.sp ++ [s] } := by
  unfold Kp.put
  rw [dif_neg (show ¬ ixS k.core.sp s.id < k.core.sp.length from ixS_out h2)]
  rfl
set_option maxRecDepth 100000 in
set_option maxHeartbeats 8000000 in
theorem with_any (B : Nat) (k : Kq) (s : Sp) (W : World) (h : k.At (· < B) W) (hB : B ≤ W.heap.size) (hl : k.sp.length ≤ 1000000) :
    Calls Try.prog 27 #[.agg #[.int .u64 k.hi, .int .u64 k.lo, .slice k.pa k.sp.length k.pcap, .bool k.spilled, .bool k.clash], .agg #[.int .u64 s.hi, .int .u64 s.lo, .int .u64 s.id, .int .u64 s.up, .string s.name, .int .i64 s.status, .int .i64 s.seq, .int .i64 s.kids, .bool s.shadow, .int .i64 s.start, .int .i64 s.stop]] W (Ret (WithQ B W k s)) := by
  have HAT := hid h
  clear h
  go_enter Try.func27, Try.ntmps27
  go_upto_region 1 with fail
  refine wp_gen ?_
  intro w1 hw1
  have hx1 : WBox W k s w1 := by
    rw [hw1]
    refine ⟨by go_grown, ((Blk.new _ _ _).alloc _).alloc _, (Blk.new' _ _ _ (by simp)).alloc _, Blk.new' _ _ _ (by simp)⟩
  clear hw1
  have HX1 := hid hx1
  clear hx1
  go_wp2_with fail
  go_loopw [5] (fun i wr => ∃ n : Nat, n ≤ k.sp.length ∧ i = .int .i64 n ∧ Hid (WBox W k s wr) ∧ Hid (∀ j (_ : j < n) (hj : j < k.sp.length), k.sp[j].id ≠ s.id)) (fun i _ => k.sp.length - (intOf i).toNat)
  case atStart => exact ⟨0, Nat.zero_le _, rfl, HX1, hid (fun j hj => absurd hj (Nat.not_lt_zero _))⟩
  case round =>
    obtain ⟨n, hn, rfl, HX, HNO⟩ := hrel
    clear HX1
    obtain ⟨x0, x1, x2, x3, x4, xf⟩ := blk5 HX.out.bk
    obtain ⟨s0, s1, s2, s3, s4, s5, s6, s7, s8, s9, s10, -⟩ := blk11 HX.out.bs
    have hl0 := HX.out.bk.lt
    have hl1 := HX.out.bs.lt
    have hl2 := HX.out.br.lt
    by_cases hlt : n < k.sp.length
    · obtain ⟨y, hy⟩ : ∃ y, k.sp[n] = y := ⟨_, rfl⟩
      obtain ⟨b, off, hpa, hpb, hcs⟩ : ∃ b off, k.pa = some ⟨b, off, none⟩ ∧ b < wr.heap.size ∧ ∀ j u, y.enc[j]? = some u → wr.cell? ⟨b, off + n * 11 + j, none⟩ = some u := by
        obtain ⟨a, cap', e, _, _, _, h5⟩ := HAT.out.below HX.out.below (fun b h => Nat.lt_of_lt_of_le h hB)
        cases e
        rcases h5 with h5 | ⟨b, off, h1, h2, h3⟩
        · rw [h5] at hlt; simp at hlt
        · exact ⟨b, off, h1, Nat.lt_of_lt_of_le (Nat.lt_of_lt_of_le h2 hB) HX.out.below.size, fun j u hu => h3 n hlt j u (by rw [hy]; exact hu)⟩
      rw [hpa] at x2
      obtain ⟨e0, e1, e2, e3, e4, e5, e6, e7, e8, e9, e10⟩ := Sp.cells hcs
      have HPA := hid hpa
      have HCS := hid hcs
      have HY := hid hy
      clear hcs hpa hy
      by_cases hid' : y.id = s.id
      · have hq : ((y.id : Int) == (s.id : Int)) = true := by simp [hid']
        have HPUT := hid (put_hit_eq hlt (by rw [HY.out]; exact hid') HNO.out)
        rw [HY.out] at HPUT
        clear hid' HNO
        go_wp2_with fail
        refine wp_region_bw (by kernel_rfl) (by kernel_rfl) ?_
        repeat (go_big_quiet_step (fail))
        refine wpQuiet_nil ?_
        rintro w2 ⟨⟨_, hb2⟩, rfl⟩
        have HX2 := hid (HX.out.later hb2)
        obtain ⟨e0, e1, e2, e3, e4, e5, e6, e7, e8, e9, e10⟩ := Sp.cells (fun j u hu => (hb2.cell (p := ⟨b, off + n * 11 + j, none⟩) hpb).trans (HCS.out j u hu))
        have hpb2 : b < w2.heap.size := Nat.lt_of_lt_of_le hpb hb2.size
        clear x0 x1 x2 x3 x4 xf s0 s1 s2 s3 s4 s5 s6 s7 s8 s9 s10 hl0 hl1 hl2 hb2 HX HCS hq
        obtain ⟨x0, x1, x2, x3, x4, xf⟩ := blk5 HX2.out.bk
        obtain ⟨s0, s1, s2, s3, s4, s5, s6, s7, s8, s9, s10, -⟩ := blk11 HX2.out.bs
        obtain ⟨y0, y1, y2, y3, y4, yf⟩ := blk5 HX2.out.br
        rw [HPA.out] at x2
        have hl0 := HX2.out.bk.lt
        have hl1 := HX2.out.bs.lt
        have hl2 := HX2.out.br.lt
        have hee := eqSp y s
        obtain ⟨N, hN⟩ : ∃ N, k.sp.length = N := ⟨_, rfl⟩
        rw [hN] at x2
        have hnN : n < N := by omega
        have HNN := hid hN
        have HFIN : Hid (∀ q : Bool, q = (k.clash || !decide (y = s)) → ∀ w3, Only [W.heap.size, W.heap.size + 1 + 1] w2 w3 → WithQ B W k s (.agg #[.int .u64 k.hi, .int .u64 k.lo, .slice (some ⟨b, off, none⟩) N k.pcap, .bool k.spilled, .bool q]) w3) := hid (by
          intro q hq w3 ho
          have hb3 : Below W.heap.size W w3 := HX2.out.below.trans (ho.below HX2.out.below.size (fun b hb => by simp at hb; omega))
          refine ⟨{ k with clash := q }, by unfold kv; rw [← HPA.out, ← HNN.out], ?_, hb3, (HAT.out.below hb3 (fun b h => Nat.lt_of_lt_of_le h hB)).imp (fun b hb => ⟨Or.inl hb, Nat.lt_of_lt_of_le (Nat.lt_of_lt_of_le hb hB) hb3.size⟩)⟩
          rw [HPUT.out, hq]
          rfl)
        clear HY hN hn hl
        clear hlt
        obtain ⟨q, hqc⟩ : ∃ q, k.clash = q := ⟨_, rfl⟩
        rw [hqc] at x4 HFIN
        have HQC := hid hqc
        clear hqc
        have hp1 : W.heap.size ≠ W.heap.size + 1 := by omega
        have hp2 : W.heap.size ≠ W.heap.size + 1 + 1 := by omega
        have hkN : (n : Int) < (N : Int) := by omega
        have hk0 : (0 : Int) ≤ (n : Int) := by omega
        cases q
        · obtain ⟨r, hr⟩ : ∃ r, decide (y = s) = r := ⟨_, rfl⟩
          rw [hr] at hee HFIN
          clear hr
          cases r
          · skip
            go_wp2_with fail
            refine wp_region_still_tail 12 (by kernel_rfl) (by kernel_rfl) ?_
            simp only [List.take_succ_cons, List.take_zero, List.drop_succ_cons, List.drop_zero]
            repeat still_step
            refine wpStill_nil ?_
            change wpList _ _ _ _ _ w2.drew
            go_wp2_with fail
            refine bodyPost_ret (by simp [results, Try.results27, go_sem, x0, x1, x2, x3, x4, y0, y1, y2, y3, y4]; try rfl) rfl ?_
            refine ⟨_, rfl, HFIN.out true (by simp) _ ?_⟩
            refine Only.drew ?_
            iterate 6 (refine Only.setCell ?_ (by simp) _)
            exact Only.refl _ _
          · skip
            go_wp2_with fail
            refine wp_region_still_tail 12 (by kernel_rfl) (by kernel_rfl) ?_
            simp only [List.take_succ_cons, List.take_zero, List.drop_succ_cons, List.drop_zero]
            repeat still_step
            refine wpStill_nil ?_
            change wpList _ _ _ _ _ w2.drew
            go_wp2_with fail
            refine bodyPost_ret (by simp [results, Try.results27, go_sem, x0, x1, x2, x3, x4, y0, y1, y2, y3, y4]; try rfl) rfl ?_
            refine ⟨_, rfl, HFIN.out false (by simp) _ ?_⟩
            refine Only.drew ?_
            iterate 6 (refine Only.setCell ?_ (by simp) _)
            exact Only.refl _ _
        · go_wp2_with fail
          refine wp_region_held_drew (S := (fun w' => w'.cell? ⟨W.heap.size, 4, none⟩ = some (.bool true) ∧ w'.frozen? ⟨W.heap.size, 4, none⟩ = false)) (by kernel_rfl) (by exact ⟨x4, xf 4⟩) (fun hHeld => ?_)
          refine wpAnyH_take (i := 0) (oi := ⟨_, _, _, _, _, _⟩) (v := ?_) rfl (by kernel_rfl) (by kernel_rfl) (by kernel_rfl) (fun _ _ _ h => h) (Or.inl ⟨by rfl, ?_⟩) hHeld ?_
          rotate_left
          · (intro w hSw; (try dsimp only at hSw); go_simp) <;> with_reducible rfl
          try simp only [Act.put, List.setIfInBounds_toArray, List.set_cons_zero, List.set_cons_succ]
          refine wpAnyH_take (i := 1) (oi := ⟨_, _, _, _, _, _⟩) (v := ?_) rfl (by kernel_rfl) (by kernel_rfl) (by kernel_rfl) (fun _ _ _ h => h) (Or.inl ⟨by rfl, ?_⟩) hHeld ?_
          rotate_left
          · (intro w hSw; (try dsimp only at hSw); go_simp) <;> with_reducible rfl
          try simp only [Act.put, List.setIfInBounds_toArray, List.set_cons_zero, List.set_cons_succ]
          refine wpAnyH_take (i := 2) (oi := ⟨_, _, _, _, _, _⟩) (v := ?_) rfl (by kernel_rfl) (by kernel_rfl) (by kernel_rfl) (fun _ _ _ h => h) (Or.inl ⟨by rfl, ?_⟩) hHeld ?_
          rotate_left
          · (intro w hSw; (try dsimp only at hSw); go_simp) <;> with_reducible rfl
          try simp only [Act.put, List.setIfInBounds_toArray, List.set_cons_zero, List.set_cons_succ]
          refine wpAnyH_take (i := 3) (oi := ⟨_, _, _, _, _, _⟩) (v := undef) rfl (by kernel_rfl) (by kernel_rfl) (by kernel_rfl) (fun _ _ _ h => h) (Or.inr ⟨by rfl, rfl⟩) hHeld ?_
          try simp only [Act.put, List.setIfInBounds_toArray, List.set_cons_zero, List.set_cons_succ]
          refine wpAnyH_take (i := 4) (oi := ⟨_, _, _, _, _, _⟩) (v := undef) rfl (by kernel_rfl) (by kernel_rfl) (by kernel_rfl) (fun _ _ _ h => h) (Or.inr ⟨by rfl, rfl⟩) hHeld ?_
          try simp only [Act.put, List.setIfInBounds_toArray, List.set_cons_zero, List.set_cons_succ]
          refine wpAnyH_take (i := 5) (oi := ⟨_, _, _, _, _, _⟩) (v := undef) rfl (by kernel_rfl) (by kernel_rfl) (by kernel_rfl) (fun _ _ _ h => h) (Or.inr ⟨by rfl, rfl⟩) hHeld ?_
          try simp only [Act.put, List.setIfInBounds_toArray, List.set_cons_zero, List.set_cons_succ]
          refine wpAnyH_take (i := 6) (oi := ⟨_, _, _, _, _, _⟩) (v := undef) rfl (by kernel_rfl) (by kernel_rfl) (by kernel_rfl) (fun _ _ _ h => h) (Or.inr ⟨by rfl, rfl⟩) hHeld ?_
          try simp only [Act.put, List.setIfInBounds_toArray, List.set_cons_zero, List.set_cons_succ]
          refine wpAnyH_take (i := 7) (oi := ⟨_, _, _, _, _, _⟩) (v := undef) rfl (by kernel_rfl) (by kernel_rfl) (by kernel_rfl) (fun _ _ _ h => h) (Or.inr ⟨by rfl, rfl⟩) hHeld ?_
          try simp only [Act.put, List.setIfInBounds_toArray, List.set_cons_zero, List.set_cons_succ]
          refine wpAnyH_take (i := 8) (oi := ⟨_, _, _, _, _, _⟩) (v := undef) rfl (by kernel_rfl) (by kernel_rfl) (by kernel_rfl) (fun _ _ _ h => h) (Or.inr ⟨by rfl, rfl⟩) hHeld ?_
          try simp only [Act.put, List.setIfInBounds_toArray, List.set_cons_zero, List.set_cons_succ]
          refine wpAnyH_take (i := 9) (oi := ⟨_, _, _, _, _, _⟩) (v := undef) rfl (by kernel_rfl) (by kernel_rfl) (by kernel_rfl) (fun _ _ _ h => h) (Or.inr ⟨by rfl, rfl⟩) hHeld ?_
          try simp only [Act.put, List.setIfInBounds_toArray, List.set_cons_zero, List.set_cons_succ]
          refine wpAnyH_take (i := 10) (oi := ⟨_, _, _, _, _, _⟩) (v := ?_) rfl (by kernel_rfl) (by kernel_rfl) (by kernel_rfl) (fun _ _ _ h => h) (Or.inl ⟨by rfl, ?_⟩) hHeld ?_
          rotate_left
          · (intro w hSw; (try dsimp only at hSw); go_simp) <;> with_reducible rfl
          try simp only [Act.put, List.setIfInBounds_toArray, List.set_cons_zero, List.set_cons_succ]
          refine wpAnyH_take (i := 11) (oi := ⟨_, _, _, _, _, _⟩) (v := ?_) rfl (by kernel_rfl) (by kernel_rfl) (by kernel_rfl) (fun _ _ _ h => h) (Or.inl ⟨by rfl, ?_⟩) hHeld ?_
          rotate_left
          · (intro w hSw; (try dsimp only at hSw); go_simp) <;> with_reducible rfl
          try simp only [Act.put, List.setIfInBounds_toArray, List.set_cons_zero, List.set_cons_succ]
          refine wpAnyH_ready (rs := [12]) (by kernel_rfl) (by simp) ?_
          refine AllReadyH.cons (o := ⟨_, _, _, _, _, _⟩) rfl (fun K hK => ?_) AllReadyH.nil
          obtain ⟨s4, sf⟩ := hHeld
          go_simp
          refine hK.out _ _ (by exact ⟨World.cell?_setCell_same' _ _ _ (by first | rw [x4]; rfl | exact congrArg Option.isSome x4), by first | simp [xf] | exact xf _⟩) (fun hHeld => ?_)
          clear hK K
          try simp only [Act.put, List.setIfInBounds_toArray, List.set_cons_zero, List.set_cons_succ]
          refine wpAnyH_done (by kernel_rfl) ?_ _
          go_wp2_with fail
          refine bodyPost_ret (by simp [results, Try.results27, go_sem, x0, x1, x2, x3, x4, y0, y1, y2, y3, y4]; try rfl) rfl ?_
          refine ⟨_, rfl, HFIN.out true (by simp) _ ?_⟩
          refine Only.drew ?_
          iterate 6 (refine Only.setCell ?_ (by simp) _)
          exact Only.refl _ _
      · have hq : ((y.id : Int) == (s.id : Int)) = false := by rw [beq_eq_false_iff_ne]; omega
        have HN2 := hid (show ∀ j (_ : j < n + 1) (hj : j < k.sp.length), k.sp[j].id ≠ s.id from fun j hj hjl => by
          by_cases e : j = n
          · subst e; rw [HY.out]; exact hid'
          · exact HNO.out j (by omega) hjl)
        clear hid' HNO HY
        go_wp2_with fail
        refine wp_region_bw (by kernel_rfl) (by kernel_rfl) ?_
        repeat (go_big_quiet_step (fail))
        refine wpQuiet_nil ?_
        rintro w2 ⟨⟨_, hb2⟩, rfl⟩
        have HX2 := hid (HX.out.later hb2)
        clear hb2 x0 x1 x2 x3 x4 xf s0 s1 s2 s3 s4 s5 s6 s7 s8 s9 s10 e0 e1 e2 e3 e4 e5 e6 e7 e8 e9 e10 hl0 hl1 hl2 hpb
        go_wp2_with fail
        go_roundw
        case rel => exact ⟨n + 1, by omega, by go_num, HX2, HN2⟩
        case measure => simp [intOf]; omega
    · obtain rfl : n = k.sp.length := by omega
      have HPUT := hid (put_out_eq (s := s) (k := k) (fun j hj => HNO.out j hj hj))
      clear HNO
      by_cases h64 : 64 ≤ k.sp.length
      · have HP := hid (HPUT.out.trans (if_pos h64))
        have h64' : (64 : Int) ≤ (k.sp.length : Int) := by omega
        obtain ⟨y0, y1, y2, y3, y4, yf⟩ := blk5 HX.out.br
        have hp2 : W.heap.size ≠ W.heap.size + 1 + 1 := by omega
        have HFIN : Hid (∀ w3, Only [W.heap.size, W.heap.size + 1 + 1] wr w3 → WithQ B W k s (.agg #[.int .u64 k.hi, .int .u64 k.lo, .slice k.pa k.sp.length k.pcap, .bool true, .bool k.clash]) w3) := hid (by
          intro w3 ho
          have hb3 : Below W.heap.size W w3 := HX.out.below.trans (ho.below HX.out.below.size (fun b hb => by simp at hb; omega))
          exact ⟨{ k with spilled := true }, rfl, by rw [HP.out]; rfl, hb3, (HAT.out.below hb3 (fun b h => Nat.lt_of_lt_of_le h hB)).imp (fun b hb => ⟨Or.inl hb, Nat.lt_of_lt_of_le (Nat.lt_of_lt_of_le hb hB) hb3.size⟩)⟩)
        clear HPUT
        go_wp2_with fail
        refine bodyPost_ret (by simp [results, Try.results27, go_sem, x0, x1, x2, x3, x4, y0, y1, y2, y3, y4]; try rfl) rfl ?_
        refine ⟨_, rfl, HFIN.out _ ?_⟩
        iterate 6 (refine Only.setCell ?_ (by simp) _)
        exact Only.refl _ _
      · have HP := hid (HPUT.out.trans (if_neg h64))
        have h64' : ¬ (64 : Int) ≤ (k.sp.length : Int) := by omega
        have hl64 : k.sp.length < 64 := by omega
        have HC : Hid (Cellz (· < B) 11 wr (.slice k.pa k.sp.length k.pcap) k.sp.length (k.sp.flatMap Sp.enc)) := hid (RowsOf.cellz Sp.enc_length (HAT.out.below HX.out.below (fun b h => Nat.lt_of_lt_of_le h hB)))
        clear HPUT h64
        go_wp2_with (at_builtin; refine wpList_pushCells elemS rfl _ _ rfl wr.heap.size _ 0 [] rfl (World.ownsRow_nil _ _ _ _) rfl HC.out (Sp.one _) ?_ ?_ (Nat.le_refl _) ?_)
        · unfold maxLen; omega
        · omega
        intro v3 w3 hown3 hb3
        have hown3 : w3.ownsRow wr.heap.size 27 11 v3 k.sp.length (k.sp.flatMap Sp.enc) := by simpa using hown3
        have HO3 := hid hown3
        have HX3 := hid (HX.out.later hb3)
        have HB3 := hid hb3
        have hsz3 := hb3.size
        clear hown3 hb3 x0 x1 x2 x3 x4 xf s0 s1 s2 s3 s4 s5 s6 s7 s8 s9 s10 HC
        obtain ⟨s0, s1, s2, s3, s4, s5, s6, s7, s8, s9, s10, -⟩ := blk11 HX3.out.bs
        have hl1' := HX3.out.bs.lt
        go_wp2_with (at_builtin; refine wpList_push elemS rfl _ _ rfl wr.heap.size _ _ _ (Sp.enc s) rfl HO3.out rfl rfl rfl (by simp [Sp.enc, Value.oneCell']) ?_ ?_ ?_ ?_)
        · unfold maxLen; omega
        · omega
        · omega
        intro v4 w4 hown4 hb4
        obtain ⟨a4, cap4, rfl⟩ := owns_form hown4
        have HX4 := hid (HX.out.later (HB3.out.trans hb4))
        obtain ⟨x0, x1, x2, x3, x4, xf⟩ := blk5 HX4.out.bk
        obtain ⟨y0, y1, y2, y3, y4, yf⟩ := blk5 HX4.out.br
        have hm0 := HX4.out.bk.lt
        have hm2 := HX4.out.br.lt
        have hp2 : W.heap.size ≠ W.heap.size + 1 + 1 := by omega
        have HFIN : Hid (∀ w5, Only [W.heap.size, W.heap.size + 1 + 1] w4 w5 → WithQ B W k s (.agg #[.int .u64 k.hi, .int .u64 k.lo, .slice a4 (k.sp.length + 1) cap4, .bool k.spilled, .bool k.clash]) w5) := hid (by
          intro w5 ho
          have hb5 : Below W.heap.size W w5 := HX4.out.below.trans (ho.below HX4.out.below.size (fun b hb => by simp at hb; omega))
          have hlen : (k.sp ++ [s]).length = k.sp.length + 1 := by rw [List.length_append]; rfl
          refine ⟨{ k with pa := a4, pcap := cap4, sp := k.sp ++ [s] }, by unfold kv; simp only [hlen], by rw [HP.out]; rfl, hb5, ?_⟩
          have h1 : OwnK wr.heap.size w4 { k with pa := a4, pcap := cap4, sp := k.sp ++ [s] } := by
            show w4.ownsRow _ _ _ (.slice a4 (k.sp ++ [s]).length cap4) (k.sp ++ [s]).length ((k.sp ++ [s]).flatMap Sp.enc)
            have e2 : (k.sp ++ [s]).flatMap Sp.enc = k.sp.flatMap Sp.enc ++ Sp.enc s := by simp
            rw [hlen, e2]
            exact hown4
          have h2 : OwnK wr.heap.size w5 { k with pa := a4, pcap := cap4, sp := k.sp ++ [s] } := h1.keep ho (fun b hb => by
            have := (h1.bd b hb).1
            simp; omega)
          exact RowsOf.imp (RowsOf.of_owns (e := 27) Sp.enc_length h2) (fun b hb => ⟨Or.inr (Nat.le_trans HX.out.below.size hb.1), hb.2⟩))
        clear hown4 hb4 HO3 HX3 HB3 s0 s1 s2 s3 s4 s5 s6 s7 s8 s9 s10 hl1'
        go_wp2_with fail
        refine bodyPost_ret (by simp [results, Try.results27, go_sem, x0, x1, x2, x3, x4, y0, y1, y2, y3, y4]; try rfl) rfl ?_
        refine ⟨_, rfl, HFIN.out _ ?_⟩
        iterate 6 (refine Only.setCell ?_ (by simp) _)
        exact Only.refl _ _
end C30
end Go.Proofs.Ytdamnbldimompaa
