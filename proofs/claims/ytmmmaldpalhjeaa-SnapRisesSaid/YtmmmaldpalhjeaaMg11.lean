/- Walks of layer 14 (table): tables alike; the document's Whole; few configs; no condition. Walks of layer 14 (table): Compile; no condition. Walks of layers 12 and 14: whether a rule hits; which rule of a table hits; no condition. Walks of layer 12 (rule): which rule is the best so far; no condition. -/
import Derived.Test.YtmmmaldpalhjeaaMg09
import Derived.Test.YtmmmaldpalhjeaaMg10
import Derived.Deep.Cut
import Derived.Deep.RegionHeld3
import Derived.Test.YtmmmaldpalhjeaaMg08
import Derived.Test.YtmmmaldpalhjeaaMg06
namespace Go.Proofs.Ytmmmaldpalhjeaa
open Go.RowKit Go.Peri
namespace C14
open C12 (wp_gen sameB)
theorem rank_map (l : List Rl) : (l.map Rl.core).map Rl.rank = l.map Rl.rank := by rw [List.map_map]; rfl
theorem check_rank {r : Rl} {ns : List ByteArray} (h : ruleR ns r = 0) : 0 ≤ r.rank ∧ r.rank ≤ 99 := by
  unfold ruleR C12.checkR at h
  split at h
  · cases h
  · rename_i hr
    have : C12.inB r.rank 0 99 = true := by simpa using hr
    unfold C12.inB at this
    rw [Bool.and_eq_true] at this
    exact ⟨of_decide_eq_true this.1, of_decide_eq_true this.2⟩
theorem badR_zero {ns : List ByteArray} : ∀ {l : List Rl}, badR ns l = 0 → ∀ r ∈ l, ruleR ns r = 0
  | [], _, r, hr => by simp at hr
  | x :: l, h, r, hr => by
    unfold badR at h
    split at h
    · rename_i h0
      rcases List.mem_cons.1 hr with rfl | hr
      · exact h0
      · exact badR_zero h r hr
    · rename_i h0
      exact absurd h h0
theorem cfg_bad {f : ByteArray} {l : List Rl} {ns : List ByteArray} (h : cfgR f l ns = 0) : badR ns l = 0 := by
  unfold cfgR at h
  split at h
  · cases h
  · split at h
    · cases h
    · exact h
theorem cfg_rank {f : ByteArray} {l : List Rl} {ns : List ByteArray} (h : cfgR f l ns = 0) : ∀ r ∈ l, 0 ≤ r.rank ∧ r.rank ≤ 99 := fun r hr => check_rank (badR_zero (cfg_bad h) r hr)
theorem step_lt {x y : Rl} (hx : 0 ≤ x.rank ∧ x.rank ≤ 99) (hy : 0 ≤ y.rank ∧ y.rank ≤ 99) : stepB x y = decide (x.rank < y.rank) := by
  unfold stepB
  rw [show wrap64 (x.rank - y.rank) = x.rank - y.rank by unfold wrap64; omega]
  by_cases h : x.rank < y.rank
  · rw [decide_eq_true h, decide_eq_true (by omega)]
  · rw [decide_eq_false h, decide_eq_false (by omega)]
theorem fallsB_falls : ∀ (l : List Rl), (∀ r ∈ l, 0 ≤ r.rank ∧ r.rank ≤ 99) → (fallsB l = true ↔ Srt.Falls Rl.rank l)
  | [], _ => by simp [fallsB, Srt.Falls]
  | [x], _ => by simp [fallsB, Srt.Falls]
  | x :: y :: l, h => by
    have ih := fallsB_falls (y :: l) fun r hr => h r (List.mem_cons_of_mem _ hr)
    rw [fallsB, Bool.and_eq_true, ih, step_lt (h x (by simp)) (h y (by simp))]
    constructor
    · rintro ⟨h1, h2⟩
      have hxy : y.rank ≤ x.rank := by
        have := h1
        simp at this
        exact this
      refine ⟨fun z hz => ?_, h2⟩
      rcases List.mem_cons.1 hz with rfl | hz
      · exact hxy
      · exact Int.le_trans (h2.1 z hz) hxy
    · rintro ⟨h1, h2⟩
      refine ⟨?_, h2⟩
      have := h1 y (by simp)
      simp
      exact this
theorem falls_core {l m : List Rl} (h : l.map Rl.core = m.map Rl.core) (hm : Srt.Falls Rl.rank m) : Srt.Falls Rl.rank l := by
  have e : l.map Rl.rank = m.map Rl.rank := by rw [← rank_map, h, rank_map]
  clear h
  induction l generalizing m with
  | nil => trivial
  | cons x l ih =>
    match m, e, hm with
    | y :: m, e, hm =>
      rw [List.map_cons, List.map_cons, List.cons.injEq] at e
      refine ⟨fun z hz => ?_, ih hm.2 e.2⟩
      have : z.rank ∈ m.map Rl.rank := by rw [← e.2]; exact List.mem_map_of_mem hz
      obtain ⟨u, hu, huz⟩ := List.mem_map.1 this
      have := hm.1 u hu
      show z.rank ≤ x.rank
      rw [← huz, e.1]
      exact this
    | [], e, _ => simp at e
/-- Whole, by what Compile gives. -/
theorem whole_eq (n : Int) (f : ByteArray) (l l1 : List Rl) (ns : List ByteArray) (h1 : compR n f l ns = 0 → l1.map Rl.core = (Srt.order Rl.rank l).map Rl.core) : (decide (compR n f l ns = 0) && sameB l l1) = wholeB n f l ns := by
  unfold wholeB
  unfold compR at h1 ⊢
  cases hv : verR n
  · rfl
  rw [hv] at h1
  rw [if_neg (by simp)] at h1 ⊢
  by_cases hc : cfgR f l ns = 0
  · rw [decide_eq_true hc]
    have hr := cfg_rank hc
    have h2 := h1 hc
    simp only [Bool.true_and]
    rw [Bool.eq_iff_iff, C12.sameB_core, fallsB_falls l hr, h2]
    constructor
    · intro h
      exact falls_core h (Srt.falls_order _ _)
    · intro h
      rw [Srt.order_of_falls _ _ h]
  · rw [decide_eq_false hc]
    rfl
set_option maxRecDepth 100000 in
set_option maxHeartbeats 1000000 in
theorem tsame_any (n m : Int) (l k : List Rl) (a b : Option Addr) (cap capb : Nat) (f g : ByteArray) (r : Bool) (W : World) (ht : TabV W W.heap.size l a cap f) (ht2 : TabV W W.heap.size k b capb g) (hps : ∀ x ∈ l, x.preds.length ≤ 1000000000000) (hps2 : ∀ x ∈ k, x.preds.length ≤ 1000000000000) (hl : l.length ≤ 1000000000000) (hk : k.length ≤ 1000000000000)
    (hr : (decide (n = m) && decide (f = g) && sameB l k) = r) :
    Calls Try.prog 36 #[.agg #[.int .i64 n, .slice a l.length cap, .string f], .agg #[.int .i64 m, .slice b k.length capb, .string g]] W fun e w' => e = .returned (.bool r) ∧ Below W.heap.size W w' := by
  obtain ⟨q, hq⟩ : ∃ q, sameB l k = q := ⟨_, rfl⟩
  have HS := hid (fun w' (hb : Below W.heap.size W w') => C12.same_any (.slice a l.length cap) (.slice b k.length capb) l k q w' ((ht.rows.below hb (fun _ h => h)).imp (fun b h => Nat.lt_of_lt_of_le h hb.size)) ((ht2.rows.below hb (fun _ h => h)).imp (fun b h => Nat.lt_of_lt_of_le h hb.size)) (fun x hx => ((ht.wf x hx).at.below hb (fun _ h => h)).imp (fun b h => Nat.lt_of_lt_of_le h hb.size)) (fun x hx => ((ht2.wf x hx).at.below hb (fun _ h => h)).imp (fun b h => Nat.lt_of_lt_of_le h hb.size)) hl hk hps hps2 hq)
  rw [hq] at hr
  have HR := hid hr
  clear ht ht2 hps hps2 hq hr
  by_cases e1 : n = m
  rotate_left
  · have g1 : (n == m) = false := by simpa using e1
    have HRF : Hid (r = false) := by show _ = _; rw [← HR.out, decide_eq_false e1]; rfl
    clear HR
    go_enter Try.func36, Try.ntmps36
    go_wp2_with fail
    go_ret
    exact ⟨by rw [HRF.out]; rfl, by go_grown⟩
  subst e1
  have g1 : (n == n) = true := by simp
  by_cases e2 : f = g
  rotate_left
  · have g2 : (f.toList == g.toList) = false := by rw [bytes_beq]; simpa using e2
    have HRF : Hid (r = false) := by show _ = _; rw [← HR.out, decide_eq_false e2, Bool.and_false]; rfl
    clear HR
    go_enter Try.func36, Try.ntmps36
    go_wp2_with fail
    go_ret
    exact ⟨by rw [HRF.out]; rfl, by go_grown⟩
  subst e2
  have g2 : (f.toList == f.toList) = true := by simp
  have HRF : Hid (r = q) := by show _ = _; rw [← HR.out]; simp
  have HB0 : Hid (Below W.heap.size W ((W.alloc (.cells #[.int .i64 n, .slice a l.length cap, .string f] 46)).alloc (.cells #[.int .i64 n, .slice b k.length capb, .string f] 46))) := by show Below _ _ _; go_grown
  clear HR
  go_enter Try.func36, Try.ntmps36
  go_wp2_with fail
  refine (HS.out _ HB0.out).mono ?_
  rintro e w1 ⟨rfl, hb1⟩
  have HB1 := hid (HB0.out.trans (hb1.mono HB0.out.size))
  clear hb1
  go_wp2_with fail
  go_ret
  exact ⟨by rw [HRF.out]; rfl, HB1.out⟩
set_option maxRecDepth 100000 in
set_option maxHeartbeats 2000000 in
theorem rwhole_any (n : Int) (l : List Rl) (a : Option Addr) (cap : Nat) (f : ByteArray) (ns : List ByteArray) (vn : Value) (r : Bool) (W : World) (ht : TabV W W.heap.size l a cap f) (hll : l.length ≤ 1000000000000) (hpl : ∀ r ∈ l, r.preds.length ≤ 1000000)
    (hn : RowsOf (· < W.heap.size) sEnc 1 W vn ns) (hl : ns.length ≤ 1000000000000) (hc : wholeB n f l ns = r) :
    Calls Try.prog 41 #[.agg #[.int .i64 n, .slice a l.length cap, .string f], vn] W fun e w' => e = .returned (.bool r) ∧ Below W.heap.size W w' := by
  obtain ⟨c, hcc⟩ : ∃ c, compR n f l ns = c := ⟨_, rfl⟩
  have HWE := hid (fun l1 => whole_eq n f l l1 ns)
  rw [hcc, hc] at HWE
  have HCO := hid (fun w' (hb : Below W.heap.size W w') => rcompile_any n l a cap f ns vn c w' ((ht.rows.below hb (fun _ h => h)).imp (fun b hb2 => Nat.lt_of_lt_of_le hb2 hb.size)) (fun r hr' => ⟨((ht.wf r hr').below hb).rows.imp (fun b hb2 => Nat.lt_of_lt_of_le hb2 hb.size), (ht.wf r hr').len, (ht.wf r hr').preds, (ht.wf r hr').rank, (ht.wf r hr').target, (ht.wf r hr').mirror⟩) hpl ((hn.below hb (fun _ h => h)).imp (fun b hb2 => Nat.lt_of_lt_of_le hb2 hb.size)) hl ht.f hcc)
  have HT := hid ht
  have HPL := hid hpl
  obtain ⟨na, ncap, rfl⟩ := hn.form
  clear ht hpl hn hcc hc
  go_enter Try.func41, Try.ntmps41
  go_upto_region 1 with fail
  refine wp_gen ?_
  intro w1 hw1
  have hb1 : Below W.heap.size W w1 := by rw [hw1]; go_grown
  have hk1 : Blk w1 W.heap.size #[.int .i64 n, .slice a l.length cap, .string f] 46 := by rw [hw1]; exact Blk.new _ _ _
  clear hw1
  have HB1 := hid hb1
  have HK1 := hid hk1
  have c0 : w1.cell? ⟨W.heap.size, 0, none⟩ = some (.int .i64 n) := hk1.cell 0
  have c1 : w1.cell? ⟨W.heap.size, 1, none⟩ = some (.slice a l.length cap) := hk1.cell 1
  have c2 : w1.cell? ⟨W.heap.size, 2, none⟩ = some (.string f) := hk1.cell 2
  clear hb1 hk1
  go_wp2_with fail
  refine (HCO.out _ HB1.out).mono ?_
  rintro e w2 ⟨v2, rfl, l1, a1, cap1, rfl, hb2, ht2, hl1⟩
  have HB2 := hid (HB1.out.trans (hb2.mono HB1.out.size))
  have hk2 := HK1.out.later hb2
  have HT2 := hid ht2
  have HL1 := hid hl1
  have HK2 := hid hk2
  clear hb2 ht2 hl1 hk2 c0 c1 c2
  by_cases hc0 : c = 0
  rotate_left
  · have e1 : (c == 0) = false := by simpa using hc0
    have HRF : Hid (r = false) := hid (by rw [← HWE.out [] (fun h => absurd h hc0), decide_eq_false hc0]; rfl)
    clear HWE HT2 HL1
    rw [if_neg hc0, if_neg hc0]
    have HBX : Hid (∀ o, Below W.heap.size W (w2.alloc o)) := hid (fun o => HB2.out.alloc HB2.out.size o)
    go_wp2_with fail
    go_ret
    exact ⟨by rw [HRF.out]; rfl, HBX.out _⟩
  subst hc0
  have hl2 := HL1.out
  rw [if_pos rfl] at hl2
  have HRV := hid (HWE.out l1 (fun _ => hl2))
  have ht3 := HT2.out
  rw [if_pos rfl] at ht3
  rw [if_pos rfl, if_pos rfl]
  have hlen : l1.length = l.length := by
    have := congrArg List.length hl2
    rwa [List.length_map, List.length_map, Srt.order_length] at this
  have hps1 : ∀ x ∈ l1, x.preds.length ≤ 1000000000000 := by
    intro x hx
    have hm : x.core ∈ (Srt.order Rl.rank l).map Rl.core := by rw [← hl2]; exact List.mem_map_of_mem hx
    obtain ⟨y, hy, hyx⟩ := List.mem_map.1 hm
    have hyl := (Srt.order_mem Rl.rank y l).1 hy
    rw [← (Rl.core_eq hyx).2.1]
    exact Nat.le_trans (HPL.out y hyl) (by decide)
  have hlw : W.heap.size ≤ w2.heap.size := HB2.out.size
  have HS : Hid (∀ w3, Below w2.heap.size w2 w3 → Calls Try.prog 36 #[.agg #[.int .i64 n, .slice a l.length cap, .string f], .agg #[.int .i64 n, .slice a1 l1.length cap1, .string f]] w3 fun e w' => e = .returned (.bool r) ∧ Below w3.heap.size w3 w') := hid (fun w3 hb3 =>
    tsame_any n n l l1 a a1 cap cap1 f f r w3 ⟨(HT.out.rows.below (HB2.out.trans (hb3.mono hlw)) (fun _ h => h)).imp (fun b hb => Nat.lt_of_lt_of_le hb (Nat.le_trans hlw hb3.size)), HT.out.len, fun x hx => (fun h => ⟨h.rows.imp (fun b hb => Nat.lt_of_lt_of_le hb (Nat.le_trans hlw hb3.size)), h.len, h.preds, h.rank, h.target, h.mirror⟩) ((HT.out.wf x hx).below (HB2.out.trans (hb3.mono hlw))), HT.out.f⟩
      ⟨(ht3.rows.below hb3 (fun _ h => h)).imp (fun b hb => Nat.lt_of_lt_of_le hb hb3.size), ht3.len, fun x hx => (fun h => ⟨h.rows.imp (fun b hb => Nat.lt_of_lt_of_le hb hb3.size), h.len, h.preds, h.rank, h.target, h.mirror⟩) ((ht3.wf x hx).below hb3), ht3.f⟩
      (fun x hx => Nat.le_trans (HPL.out x hx) (by decide)) hps1 hll (by omega) (by rw [← HRV.out]; simp))
  have HB3 : Hid (Below w2.heap.size w2 (w2.alloc (.cells #[.int .i64 n, .slice a1 l1.length cap1, .string f] 46))) := by show Below _ _ _; go_grown
  have d0 : w2.cell? ⟨W.heap.size, 0, none⟩ = some (.int .i64 n) := HK2.out.cell 0
  have d1 : w2.cell? ⟨W.heap.size, 1, none⟩ = some (.slice a l.length cap) := HK2.out.cell 1
  have d2 : w2.cell? ⟨W.heap.size, 2, none⟩ = some (.string f) := HK2.out.cell 2
  have hlt := HK2.out.lt
  clear hl2 ht3 hps1 HWE HT2 HL1
  generalize l1.length = m1 at HS HB3
  go_wp2_with fail
  refine (HS.out _ HB3.out).mono ?_
  rintro e w3 ⟨rfl, hb3⟩
  have HB4 := hid (HB2.out.trans ((HB3.out.trans (hb3.mono HB3.out.size)).mono hlw))
  clear hb3
  go_wp2_with fail
  go_ret
  exact ⟨rfl, HB4.out⟩
end C14
end Go.Proofs.Ytmmmaldpalhjeaa
namespace Go.Proofs.Ytmmmaldpalhjeaa
open Go.RowKit Go.Peri
namespace C14
open C12 (wp_gen)
set_option maxRecDepth 100000 in
set_option maxHeartbeats 4000000 in
theorem compile_any (n : Int) (l : List Rl) (a : Option Addr) (cap : Nat) (f : ByteArray) (ns : List ByteArray) (vn : Value) (c : Int) (W : World) (hr : RowsOf (· < W.heap.size) Rl.enc 10 W (.slice a l.length cap) l) (hw : ∀ r ∈ l, r.Wf W W.heap.size) (hpl : ∀ r ∈ l, r.preds.length ≤ 1000000)
    (hn : RowsOf (· < W.heap.size) sEnc 1 W vn ns) (hl : ns.length ≤ 1000000000000) (hf : f.size ≤ 140737488351232) (hc : compR n f l ns = c) :
    Calls Try.prog 71 #[.agg #[.slice a l.length cap, .string f], .int .i64 n, vn] W (Ret (CompQ n l f c W)) := by
  obtain ⟨q, hq⟩ : ∃ q, verR n = q := ⟨_, rfl⟩
  have HV := hid (fun w => version_any n q w hq)
  unfold compR at hc
  rw [hq] at hc
  clear hq
  have HC := hid hc
  obtain ⟨d, hd⟩ : ∃ d, cfgR f l ns = d := ⟨_, rfl⟩
  have HCK := hid (fun w' (hb : Below W.heap.size W w') => check_any l a cap f ns vn d w' ((hr.below hb (fun _ h => h)).imp (fun b hb2 => Nat.lt_of_lt_of_le hb2 hb.size)) (fun r hr' => ⟨((hw r hr').below hb).rows.imp (fun b hb2 => Nat.lt_of_lt_of_le hb2 hb.size), (hw r hr').len, (hw r hr').preds, (hw r hr').rank, (hw r hr').target, (hw r hr').mirror⟩) (fun r hr' => Nat.le_trans (hpl r hr') (by decide)) ((hn.below hb (fun _ h => h)).imp (fun b hb2 => Nat.lt_of_lt_of_le hb2 hb.size)) hl (by omega) hd)
  have HOR := hid (fun w' (hb : Below W.heap.size W w') (h16 : l.length ≤ 16) => C12.order_any (.slice a l.length cap) l w' (hr.below hb (fun _ h => h)) (fun b hb2 => Nat.lt_of_lt_of_le hb2 hb.size) (by omega) (fun r hr' => ((hw r hr').below hb).rows.imp (fun b hb2 => Nat.lt_of_lt_of_le hb2 hb.size)) hpl)
  have H16 : Hid (d = 0 → l.length ≤ 16) := hid (fun h => cfg_len (hd.trans h))
  have HW := hid hw
  rw [hd] at HC
  obtain ⟨na, ncap, rfl⟩ := hn.form
  clear hr hw hpl hn hl hd hc
  go_enter Try.func71, Try.ntmps71
  go_upto_region 1 with fail
  refine wp_gen ?_
  intro w1 hw1
  have hb1 : Below W.heap.size W w1 := by rw [hw1]; go_grown
  have hk0 : Blk w1 W.heap.size #[.slice a l.length cap, .string f] 109 := by rw [hw1]; exact (Blk.new _ _ _).alloc _
  have hk1 : Blk w1 (W.heap.size + 1) #[.int .i64 0, .slice none 0 0, .string ByteArray.empty] 46 := by rw [hw1]; exact Blk.new' _ _ _ (by simp)
  clear hw1
  have HB1 := hid hb1
  have HK0 := hid hk0
  have HK1 := hid hk1
  have c0 : w1.cell? ⟨W.heap.size, 0, none⟩ = some (.slice a l.length cap) := hk0.cell 0
  have c1 : w1.cell? ⟨W.heap.size, 1, none⟩ = some (.string f) := hk0.cell 1
  have r0 : w1.cell? ⟨W.heap.size + 1, 0, none⟩ = some (.int .i64 0) := hk1.cell 0
  have r1 : w1.cell? ⟨W.heap.size + 1, 1, none⟩ = some (.slice none 0 0) := hk1.cell 1
  have r2 : w1.cell? ⟨W.heap.size + 1, 2, none⟩ = some (.string ByteArray.empty) := hk1.cell 2
  have f0 := hk1.free 0
  have f1 := hk1.free 1
  have f2 := hk1.free 2
  clear hb1 hk0 hk1
  go_wp2_with fail
  refine (HV.out _).mono ?_
  rintro e w' ⟨rfl, rfl⟩
  cases q
  · obtain rfl : (12 : Int) = c := HC.out
    clear HCK HOR H16 HW
    go_wp2_with fail
    refine bodyPost_ret (by simp [results, Try.results71, go_sem, r0, r1, r2]; try rfl) rfl ?_
    exact ⟨_, rfl, compQ_bad (by decide) (HB1.out.trans ((((Only.refl [W.heap.size + 1] w1).setCell (by simp) _).setCell (by simp) _).setCell (by simp) _ |>.below (B := W.heap.size) (by have := HB1.out.size; omega) (fun k hk => by simp at hk; omega)))⟩
  have HCD : Hid (d = c) := hid (by rw [← HC.out]; rfl)
  obtain rfl := HCD.out
  clear HCD HC
  go_wp2_with fail
  refine (HCK.out _ HB1.out).mono ?_
  rintro e w2 ⟨rfl, hb2⟩
  have HB2 := hid (HB1.out.trans (hb2.mono HB1.out.size))
  have hk0 := HK0.out.later hb2
  have hk1 := HK1.out.later hb2
  clear c0 c1 r0 r1 r2 f0 f1 f2 hb2
  have c0 : w2.cell? ⟨W.heap.size, 0, none⟩ = some (.slice a l.length cap) := hk0.cell 0
  have c1 : w2.cell? ⟨W.heap.size, 1, none⟩ = some (.string f) := hk0.cell 1
  have r0 : w2.cell? ⟨W.heap.size + 1, 0, none⟩ = some (.int .i64 0) := hk1.cell 0
  have r1 : w2.cell? ⟨W.heap.size + 1, 1, none⟩ = some (.slice none 0 0) := hk1.cell 1
  have r2 : w2.cell? ⟨W.heap.size + 1, 2, none⟩ = some (.string ByteArray.empty) := hk1.cell 2
  have f0 := hk1.free 0
  have f1 := hk1.free 1
  have f2 := hk1.free 2
  by_cases hd0 : d = 0
  rotate_left
  · have e1 : (d == 0) = false := by simpa using hd0
    have e2 : (d != 0) = true := by simpa using hd0
    clear HCK HOR H16 HW
    go_wp2_with fail
    refine bodyPost_ret (by simp [results, Try.results71, go_sem, r0, r1, r2]; try rfl) rfl ?_
    exact ⟨_, rfl, compQ_bad hd0 (HB2.out.trans ((((Only.refl [W.heap.size + 1] w2).setCell (by simp) _).setCell (by simp) _).setCell (by simp) _ |>.below (B := W.heap.size) (by have := HB2.out.size; omega) (fun k hk => by simp at hk; omega)))⟩
  subst hd0
  have h16 := H16.out rfl
  have KEEP : Hid (∀ w', Only [W.heap.size + 1] w2 w' → w'.cell? ⟨W.heap.size, 0, none⟩ = some (.slice a l.length cap) ∧ w'.cell? ⟨W.heap.size, 1, none⟩ = some (.string f)) := hid (fun w' ho => ⟨(hk0.only ho (by simp)).cell 0, (hk0.only ho (by simp)).cell 1⟩)
  have HK2 := hid hk1
  have hg2 := hk1.lt
  have hg3 := hk0.lt
  have HOO : Hid (∀ w', w' = w2 ∨ w' = w2.drew → Calls Try.prog 52 #[.slice a l.length cap] w' (Ret (C12.Ordered w2 l))) := hid (fun w' h => (HOR.out w' (by rcases h with rfl | rfl; exact HB2.out; exact HB2.out.drew) h16).mono (fun e w3 ⟨v, he, hq⟩ => ⟨v, he, ord_drew h hq⟩))
  clear hk0 hk1 HCK HOR H16 r0 r1 r2 f0 f1 f2 c0 c1
  go_wp2_with fail
  go_region_held3 (fun w' => w'.cell? ⟨W.heap.size, 0, none⟩ = some (.slice a l.length cap) ∧ w'.cell? ⟨W.heap.size, 1, none⟩ = some (.string f)) ((refine KEEP.out _ ?_; (repeat' (first | (with_reducible refine Only.setCell ?_ (by simp) _) | (with_reducible refine Only.drew ?_) | (with_reducible exact ho3) | (with_reducible exact Only.refl _ _)))))
    ((go_at_call 52; refine (HOO.out _ (by first | exact .inl rfl | exact .inr rfl)).mono ?_; rintro e w3 ⟨v3, rfl, hq3⟩; obtain ⟨a3, cap3, rfl⟩ := ord_form hq3; have HQ3 := hid hq3; have hb3 := ord_below hq3; have ho3 : Only [W.heap.size + 1] w2 w3 := Only.of_below hb3; have hk3 := HK2.out.later hb3; have r0 : w3.cell? ⟨W.heap.size + 1, 0, none⟩ = some (.int .i64 0) := hk3.cell 0; have r1 : w3.cell? ⟨W.heap.size + 1, 1, none⟩ = some (.slice none 0 0) := hk3.cell 1; have r2 : w3.cell? ⟨W.heap.size + 1, 2, none⟩ = some (.string ByteArray.empty) := hk3.cell 2; have f0 := hk3.free 0; have f1 := hk3.free 1; have f2 := hk3.free 2; have hg4 := hk3.lt; clear hq3 hb3 hk3))
  all_goals
    go_wp2_with fail
    refine bodyPost_ret (by simp [results, Try.results71, go_sem, r0, r1, r2]; try rfl) rfl ?_
    exact ⟨_, rfl, comp_fin HW.out h16 hf HB2.out hg2 HQ3.out (by repeat' (first | (with_reducible refine Only.setCell ?_ (by simp) _) | (with_reducible refine Only.drew ?_) | (with_reducible exact Only.refl _ _)))⟩
end C14
end Go.Proofs.Ytmmmaldpalhjeaa
namespace Go.Peri
open Go.RowKit
theorem ReqV.below {w w' : World} {B : Nat} {m h p b : ByteArray} {l : List Hd} {a : Option Addr} {cap : Nat} (x : ReqV w B m h p b l a cap) (hb : Below B w w') : ReqV w' B m h p b l a cap := ⟨x.rows.below hb (fun _ h => h), x.len, x.wf, x.m, x.h, x.p, x.b⟩
end Go.Peri
namespace Go.Proofs.Ytmmmaldpalhjeaa
open Go.RowKit Go.Peri
namespace C16
/-- The place of the first rule that hits. -/
def ix (m h p : ByteArray) (hs : List Hd) (l : List Rl) : Nat := l.findIdx (fun r => C11.allR m h p hs r.preds)
def lookR (m h p : ByteArray) (hs : List Hd) (l : List Rl) : Int := if ix m h p hs l < l.length then ix m h p hs l else -1
theorem look_hit {m h p : ByteArray} {hs : List Hd} {l : List Rl} {k : Nat} (hk : k < l.length) (h1 : C11.allR m h p hs l[k].preds = true) (h2 : ∀ j (_ : j < k) (hj : j < l.length), C11.allR m h p hs l[j].preds = false) : lookR m h p hs l = k := by
  have : ix m h p hs l = k := by
    unfold ix
    rw [List.findIdx_eq hk]
    exact ⟨h1, fun j hj => h2 j hj (by omega)⟩
  unfold lookR
  rw [this, if_pos hk]
theorem look_none {m h p : ByteArray} {hs : List Hd} {l : List Rl} (h2 : ∀ j (hj : j < l.length), C11.allR m h p hs l[j].preds = false) : lookR m h p hs l = -1 := by
  unfold lookR
  rw [if_neg]
  intro hz
  have h3 := List.findIdx_getElem (p := fun r : Rl => C11.allR m h p hs r.preds) (w := hz)
  have h4 := h2 _ hz
  unfold ix at h4
  rw [h4] at h3
  exact absurd h3 (by simp)
theorem look_lt {m h p : ByteArray} {hs : List Hd} {l : List Rl} : -1 ≤ lookR m h p hs l ∧ lookR m h p hs l < l.length := by
  unfold lookR
  split <;> omega
set_option maxRecDepth 100000 in
set_option maxHeartbeats 1000000 in
theorem hits_any {B : Nat} (r : Rl) (m h p b : ByteArray) (hs : List Hd) (a0 : Option Addr) (cap0 : Nat) (q : Bool) (W : World) (hr : r.Wf W B) (hq : ReqV W B m h p b hs a0 cap0) (hB : B ≤ W.heap.size) (hn : hs.length ≤ 1000000) (hl : r.preds.length ≤ 1000000000) (hh : C11.allR m h p hs r.preds = q) :
    Calls Try.prog 49 #[.agg #[.int .i64 r.rank, .slice r.pa r.preds.length r.pcap, .string r.target, .int .i64 r.ap, .int .i64 r.as_, .int .i64 r.dp, .int .i64 r.dt, .int .i64 r.mp, .string r.mirror, .int .i64 r.sample], .agg #[.string m, .string h, .string p, .slice a0 hs.length cap0, .string b]] W fun e w' => e = .returned (.bool q) ∧ Below W.heap.size W w' := by
  have HA := hid (fun w' (hw : Below W.heap.size W w') => C11.all_any (.slice r.pa r.preds.length r.pcap) r.preds m h p b hs a0 cap0 q w' (hr.rows.below (hw.mono hB) (fun _ h => h)) (fun b hb => Nat.lt_of_lt_of_le hb (Nat.le_trans hB hw.size)) (hq.rows.below (hw.mono hB) (fun _ h => h)) (fun b hb => Nat.lt_of_lt_of_le hb (Nat.le_trans hB hw.size)) hn hl hh)
  have HB0 : Hid (Below W.heap.size W ((W.alloc (.cells #[.int .i64 r.rank, .slice r.pa r.preds.length r.pcap, .string r.target, .int .i64 r.ap, .int .i64 r.as_, .int .i64 r.dp, .int .i64 r.dt, .int .i64 r.mp, .string r.mirror, .int .i64 r.sample] 60)).alloc (.cells #[.string m, .string h, .string p, .slice a0 hs.length cap0, .string b] 67))) := by show Below _ _ _; go_grown
  clear hr hq hh
  go_enter Try.func49, Try.ntmps49
  go_wp2_with fail
  refine (HA.out _ HB0.out).mono ?_
  rintro e w1 ⟨rfl, hb1⟩
  have HB1 := hid (HB0.out.trans (hb1.mono HB0.out.size))
  clear hb1
  go_wp2_with fail
  go_ret
  exact ⟨rfl, HB1.out⟩
set_option maxRecDepth 100000 in
set_option maxHeartbeats 1000000 in
theorem rhits_any {B : Nat} (r : Rl) (m h p b : ByteArray) (hs : List Hd) (a0 : Option Addr) (cap0 : Nat) (q : Bool) (W : World) (hr : r.Wf W B) (hq : ReqV W B m h p b hs a0 cap0) (hB : B ≤ W.heap.size) (hn : hs.length ≤ 1000000) (hl : r.preds.length ≤ 1000000000) (hh : C11.allR m h p hs r.preds = q) :
    Calls Try.prog 50 #[.agg #[.int .i64 r.rank, .slice r.pa r.preds.length r.pcap, .string r.target, .int .i64 r.ap, .int .i64 r.as_, .int .i64 r.dp, .int .i64 r.dt, .int .i64 r.mp, .string r.mirror, .int .i64 r.sample], .agg #[.string m, .string h, .string p, .slice a0 hs.length cap0, .string b]] W fun e w' => e = .returned (.bool q) ∧ Below W.heap.size W w' := by
  have HA := hid (fun w' (hw : Below W.heap.size W w') => C11.rall_any (.slice r.pa r.preds.length r.pcap) r.preds m h p b hs a0 cap0 q w' (hr.rows.below (hw.mono hB) (fun _ h => h)) (fun b hb => Nat.lt_of_lt_of_le hb (Nat.le_trans hB hw.size)) (hq.rows.below (hw.mono hB) (fun _ h => h)) (fun b hb => Nat.lt_of_lt_of_le hb (Nat.le_trans hB hw.size)) hn hl hh)
  have HB0 : Hid (Below W.heap.size W ((W.alloc (.cells #[.int .i64 r.rank, .slice r.pa r.preds.length r.pcap, .string r.target, .int .i64 r.ap, .int .i64 r.as_, .int .i64 r.dp, .int .i64 r.dt, .int .i64 r.mp, .string r.mirror, .int .i64 r.sample] 60)).alloc (.cells #[.string m, .string h, .string p, .slice a0 hs.length cap0, .string b] 67))) := by show Below _ _ _; go_grown
  clear hr hq hh
  go_enter Try.func50, Try.ntmps50
  go_wp2_with fail
  refine (HA.out _ HB0.out).mono ?_
  rintro e w1 ⟨rfl, hb1⟩
  have HB1 := hid (HB0.out.trans (hb1.mono HB0.out.size))
  clear hb1
  go_wp2_with fail
  go_ret
  exact ⟨rfl, HB1.out⟩
set_option maxRecDepth 100000 in
set_option maxHeartbeats 1000000 in
theorem lit_any {B : Nat} (r : Rl) (m h p b : ByteArray) (hs : List Hd) (a0 : Option Addr) (cap0 : Nat) (q : Bool) (X : Nat) (W : World) (hr : r.Wf W B) (hq : ReqV W B m h p b hs a0 cap0) (hB : B ≤ W.heap.size) (hn : hs.length ≤ 1000000) (hl : r.preds.length ≤ 1000000000) (hh : C11.allR m h p hs r.preds = q) (hx : Blk W X #[.string m, .string h, .string p, .slice a0 hs.length cap0, .string b] 67) :
    Calls Try.prog 139 #[.agg #[.int .i64 r.rank, .slice r.pa r.preds.length r.pcap, .string r.target, .int .i64 r.ap, .int .i64 r.as_, .int .i64 r.dp, .int .i64 r.dt, .int .i64 r.mp, .string r.mirror, .int .i64 r.sample], .pointer (some ⟨X, 0, none⟩)] W fun e w' => e = .returned (.bool q) ∧ Below W.heap.size W w' := by
  have HA := hid (fun w' (hw : Below W.heap.size W w') => hits_any r m h p b hs a0 cap0 q w' (hr.below (hw.mono hB)) (hq.below (hw.mono hB)) (Nat.le_trans hB hw.size) hn hl hh)
  have HB0 : Hid (Below W.heap.size W (W.alloc (.cells #[.int .i64 r.rank, .slice r.pa r.preds.length r.pcap, .string r.target, .int .i64 r.ap, .int .i64 r.as_, .int .i64 r.dp, .int .i64 r.dt, .int .i64 r.mp, .string r.mirror, .int .i64 r.sample] 60))) := by show Below _ _ _; go_grown
  have y0 : W.cell? ⟨X, 0, none⟩ = some (.string m) := hx.cell 0
  have y1 : W.cell? ⟨X, 1, none⟩ = some (.string h) := hx.cell 1
  have y2 : W.cell? ⟨X, 2, none⟩ = some (.string p) := hx.cell 2
  have y3 : W.cell? ⟨X, 3, none⟩ = some (.slice a0 hs.length cap0) := hx.cell 3
  have y4 : W.cell? ⟨X, 4, none⟩ = some (.string b) := hx.cell 4
  have hlt := hx.lt
  clear hr hq hh hx
  go_enter Try.func139, Try.ntmps139
  go_wp2_with fail
  refine (HA.out _ HB0.out).mono ?_
  rintro e w1 ⟨rfl, hb1⟩
  have HB1 := hid (HB0.out.trans (hb1.mono HB0.out.size))
  clear hb1
  go_wp2_with fail
  go_ret
  exact ⟨rfl, HB1.out⟩
set_option maxRecDepth 100000 in
set_option maxHeartbeats 1000000 in
theorem index_any {B : Nat} (v : Value) (l : List Rl) (m h p b : ByteArray) (hs : List Hd) (a0 : Option Addr) (cap0 : Nat) (X : Nat) (W : World) (hl : RowsOf (· < B) Rl.enc 10 W v l) (hw : ∀ r ∈ l, r.Wf W B) (hq : ReqV W B m h p b hs a0 cap0) (hB : B ≤ W.heap.size) (hn : hs.length ≤ 1000000) (hll : l.length ≤ 10000000000000) (hps : ∀ r ∈ l, r.preds.length ≤ 1000000000) (hx : Blk W X #[.string m, .string h, .string p, .slice a0 hs.length cap0, .string b] 67) :
    Calls Try.prog 138 #[v, .func (.func 139) #[] #[.pointer (some ⟨X, 0, none⟩)]] W fun e w' => e = .returned (.int .i64 (lookR m h p hs l)) ∧ Below W.heap.size W w' := by
  obtain ⟨a, cap, rfl, hlc, hcm, _, hcell⟩ := hl
  have HC := hid hcell
  have HLT := hid (fun (r : Rl) (q : Bool) (w' : World) (hr : r ∈ l) (hh : C11.allR m h p hs r.preds = q) (hb : Below W.heap.size W w') => lit_any r m h p b hs a0 cap0 q X w' ((hw r hr).below (hb.mono hB)) (hq.below (hb.mono hB)) (Nat.le_trans hB hb.size) hn (hps r hr) hh (hx.later hb))
  clear hcell hw hq hps hx
  go_enter Try.func138, Try.ntmps138
  go_wp2_with fail
  go_loopw [8] (fun i wr => ∃ k : Nat, k ≤ l.length ∧ i = .int .i64 k ∧ Below W.heap.size W wr ∧ ∀ j (_ : j < k) (hj : j < l.length), C11.allR m h p hs l[j].preds = false) (fun i _ => l.length - (intOf i).toNat)
  case atStart => exact ⟨0, Nat.zero_le _, rfl, Below.refl _ _, fun j hj => absurd hj (Nat.not_lt_zero _)⟩
  case round =>
    obtain ⟨k, hk, rfl, hb, hno⟩ := hrel
    have HB := hid hb
    have HN := hid hno
    clear hb hno
    by_cases hlt : k < l.length
    · obtain ⟨bb, off, rfl, hpb, hc⟩ := HC.out.resolve_left (by intro e; rw [e] at hlt; simp at hlt)
      have hbl0 : bb < W.heap.size := Nat.lt_of_lt_of_le hpb hB
      have hbl : bb < wr.heap.size := Nat.lt_of_lt_of_le hbl0 HB.out.size
      obtain ⟨c0, c1, c2, c3, c4, c5, c6, c7, c8, c9⟩ := Rl.cells (fun j u hu => (HB.out.cell (p := ⟨bb, off + k * 10 + j, none⟩) hbl0).trans (hc k hlt j u hu))
      obtain ⟨bq, hbq⟩ : ∃ bq, C11.allR m h p hs l[k].preds = bq := ⟨_, rfl⟩
      have HLit := hid (fun w' (hb : Below W.heap.size W w') => HLT.out l[k] bq w' (List.getElem_mem hlt) hbq hb)
      have HNext : Hid (bq = false → ∀ j (_ : j < k + 1) (hj : j < l.length), C11.allR m h p hs l[j].preds = false) := by
        intro e j hj hjl
        by_cases e2 : j = k
        · subst e2; rw [e] at hbq; exact hbq
        · exact HN.out j (by omega) hjl
      have HHit : Hid (bq = true → lookR m h p hs l = k) := fun e => by
        rw [e] at hbq
        exact look_hit hlt hbq HN.out
      clear hc hbq
      generalize l[k] = y at c0 c1 c2 c3 c4 c5 c6 c7 c8 c9 HLit
      cases bq
      · go_wp2_with fail
        refine (HLit.out _ HB.out).mono ?_
        rintro e w1 ⟨rfl, hb1⟩
        have HB1 := hid (HB.out.trans (hb1.mono HB.out.size))
        clear hb1
        go_wp2_with fail
        go_roundw
        case rel => exact ⟨k + 1, by omega, by go_num, HB1.out, HNext.out (by simp)⟩
        case measure => simp [intOf]; omega
      · go_wp2_with fail
        refine (HLit.out _ HB.out).mono ?_
        rintro e w1 ⟨rfl, hb1⟩
        have HB1 := hid (HB.out.trans (hb1.mono HB.out.size))
        clear hb1
        go_wp2_with fail
        go_ret
        exact ⟨by rw [HHit.out (by simp)]; rfl, HB1.out⟩
    · obtain rfl : k = l.length := by omega
      have hd : Hid (lookR m h p hs l = -1) := hid (look_none (fun j hj => HN.out j hj hj))
      go_wp2_with fail
      go_ret
      exact ⟨by rw [hd.out]; rfl, HB.out⟩
set_option maxRecDepth 100000 in
set_option maxHeartbeats 1000000 in
theorem look_any {B : Nat} (n : Int) (l : List Rl) (a : Option Addr) (cap : Nat) (f : ByteArray) (m h p b : ByteArray) (hs : List Hd) (a0 : Option Addr) (cap0 : Nat) (r : Int) (W : World) (ht : TabV W B l a cap f) (hq : ReqV W B m h p b hs a0 cap0) (hB : B ≤ W.heap.size) (hn : hs.length ≤ 1000000) (hps : ∀ r ∈ l, r.preds.length ≤ 1000000000) (hr : lookR m h p hs l = r) :
    Calls Try.prog 76 #[.agg #[.int .i64 n, .slice a l.length cap, .string f], .agg #[.string m, .string h, .string p, .slice a0 hs.length cap0, .string b]] W fun e w' => e = .returned (.int .i64 r) ∧ Below W.heap.size W w' := by
  have HB0 : Hid (Below W.heap.size W ((W.alloc (.cells #[.int .i64 n, .slice a l.length cap, .string f] 46)).alloc (.cells #[.string m, .string h, .string p, .slice a0 hs.length cap0, .string b] 67))) := by show Below _ _ _; go_grown
  have hB0 := HB0.out
  have HI := hid (index_any (.slice a l.length cap) l m h p b hs a0 cap0 (W.heap.size + 1) ((W.alloc (.cells #[.int .i64 n, .slice a l.length cap, .string f] 46)).alloc (.cells #[.string m, .string h, .string p, .slice a0 hs.length cap0, .string b] 67)) (ht.rows.below (hB0.mono hB) (fun _ h => h)) (fun r hr => (ht.wf r hr).below (hB0.mono hB)) (hq.below (hB0.mono hB)) (Nat.le_trans hB hB0.size) hn (by have := ht.len; omega) hps (Blk.new' _ _ _ (by simp)))
  rw [hr] at HI
  clear ht hq hps hr hB0
  go_enter Try.func76, Try.ntmps76
  go_wp2_with fail
  refine HI.out.mono ?_
  rintro e w1 ⟨rfl, hb1⟩
  have HB1 := hid (HB0.out.trans (hb1.mono HB0.out.size))
  clear hb1
  go_wp2_with fail
  go_ret
  exact ⟨rfl, HB1.out⟩
set_option maxRecDepth 100000 in
set_option maxHeartbeats 1000000 in
theorem rlook_any {B : Nat} (n : Int) (l : List Rl) (a : Option Addr) (cap : Nat) (f : ByteArray) (m h p b : ByteArray) (hs : List Hd) (a0 : Option Addr) (cap0 : Nat) (r : Int) (W : World) (ht : TabV W B l a cap f) (hq : ReqV W B m h p b hs a0 cap0) (hB : B ≤ W.heap.size) (hn : hs.length ≤ 1000000) (hps : ∀ r ∈ l, r.preds.length ≤ 1000000000) (hr : lookR m h p hs l = r) :
    Calls Try.prog 77 #[.agg #[.int .i64 n, .slice a l.length cap, .string f], .agg #[.string m, .string h, .string p, .slice a0 hs.length cap0, .string b]] W fun e w' => e = .returned (.int .i64 r) ∧ Below W.heap.size W w' := by
  have HB0 : Hid (Below W.heap.size W ((W.alloc (.cells #[.int .i64 n, .slice a l.length cap, .string f] 46)).alloc (.cells #[.string m, .string h, .string p, .slice a0 hs.length cap0, .string b] 67))) := by show Below _ _ _; go_grown
  have HLT := hid (fun (r : Rl) (q : Bool) (w' : World) (hr : r ∈ l) (hh : C11.allR m h p hs r.preds = q) (hb : Below W.heap.size W w') => rhits_any r m h p b hs a0 cap0 q w' ((ht.wf r hr).below (hb.mono hB)) (hq.below (hb.mono hB)) (Nat.le_trans hB hb.size) hn (hps r hr) hh)
  have HZ := hid ((Blk.new W #[.int .i64 n, .slice a l.length cap, .string f] 46).alloc (.cells #[.string m, .string h, .string p, .slice a0 hs.length cap0, .string b] 67))
  have HY := hid (Blk.new' (W.alloc (.cells #[.int .i64 n, .slice a l.length cap, .string f] 46)) #[.string m, .string h, .string p, .slice a0 hs.length cap0, .string b] 67 (n := W.heap.size + 1) (by simp))
  obtain ⟨⟨a9, cap9, e9, hlc, hcm, _, hcell⟩, hlen, _, _⟩ := ht
  cases e9
  have HC := hid hcell
  have HR := hid hr
  clear hcell hq hps hr
  go_enter Try.func77, Try.ntmps77
  go_wp2_with fail
  go_loopw [5] (fun i wr => ∃ k : Nat, k ≤ l.length ∧ i = .int .i64 k ∧ Below ((W.alloc (.cells #[.int .i64 n, .slice a l.length cap, .string f] 46)).alloc (.cells #[.string m, .string h, .string p, .slice a0 hs.length cap0, .string b] 67)).heap.size ((W.alloc (.cells #[.int .i64 n, .slice a l.length cap, .string f] 46)).alloc (.cells #[.string m, .string h, .string p, .slice a0 hs.length cap0, .string b] 67)) wr ∧ ∀ j (_ : j < k) (hj : j < l.length), C11.allR m h p hs l[j].preds = false) (fun i _ => l.length - (intOf i).toNat)
  case atStart => exact ⟨0, Nat.zero_le _, rfl, Below.refl _ _, fun j hj => absurd hj (Nat.not_lt_zero _)⟩
  case round =>
    obtain ⟨k, hk, rfl, hb, hno⟩ := hrel
    have HB := hid hb
    have HN := hid hno
    have HW := hid (HB0.out.trans (hb.mono HB0.out.size))
    have hz := HZ.out.later hb
    have hy := HY.out.later hb
    have z1 : wr.cell? ⟨W.heap.size, 1, none⟩ = some (.slice a l.length cap) := hz.cell 1
    have y0 : wr.cell? ⟨W.heap.size + 1, 0, none⟩ = some (.string m) := hy.cell 0
    have y1 : wr.cell? ⟨W.heap.size + 1, 1, none⟩ = some (.string h) := hy.cell 1
    have y2 : wr.cell? ⟨W.heap.size + 1, 2, none⟩ = some (.string p) := hy.cell 2
    have y3 : wr.cell? ⟨W.heap.size + 1, 3, none⟩ = some (.slice a0 hs.length cap0) := hy.cell 3
    have y4 : wr.cell? ⟨W.heap.size + 1, 4, none⟩ = some (.string b) := hy.cell 4
    have hlz := hz.lt
    have hly := hy.lt
    clear hz hy
    clear hb hno
    by_cases hlt : k < l.length
    · obtain ⟨bb, off, rfl, hpb, hc⟩ := HC.out.resolve_left (by intro e; rw [e] at hlt; simp at hlt)
      have hbl0 : bb < W.heap.size := Nat.lt_of_lt_of_le hpb hB
      have hbl : bb < wr.heap.size := Nat.lt_of_lt_of_le hbl0 HW.out.size
      obtain ⟨c0, c1, c2, c3, c4, c5, c6, c7, c8, c9⟩ := Rl.cells (fun j u hu => (HW.out.cell (p := ⟨bb, off + k * 10 + j, none⟩) hbl0).trans (hc k hlt j u hu))
      obtain ⟨bq, hbq⟩ : ∃ bq, C11.allR m h p hs l[k].preds = bq := ⟨_, rfl⟩
      have HLit : Hid (∀ x : BW wr, Calls Try.prog 50 #[.agg #[.int .i64 l[k].rank, .slice l[k].pa l[k].preds.length l[k].pcap, .string l[k].target, .int .i64 l[k].ap, .int .i64 l[k].as_, .int .i64 l[k].dp, .int .i64 l[k].dt, .int .i64 l[k].mp, .string l[k].mirror, .int .i64 l[k].sample], .agg #[.string m, .string h, .string p, .slice a0 hs.length cap0, .string b]] x.val fun e w' => e = .returned (.bool bq) ∧ Below x.val.heap.size x.val w') := hid (fun x => HLT.out l[k] bq x.val (List.getElem_mem hlt) hbq (HW.out.trans (x.prop.mono HW.out.size)))
      have HNext : Hid (bq = false → ∀ j (_ : j < k + 1) (hj : j < l.length), C11.allR m h p hs l[j].preds = false) := by
        intro e j hj hjl
        by_cases e2 : j = k
        · subst e2; rw [e] at hbq; exact hbq
        · exact HN.out j (by omega) hjl
      have HHit : Hid (bq = true → lookR m h p hs l = k) := fun e => by
        rw [e] at hbq
        exact look_hit hlt hbq HN.out
      clear hc hbq
      generalize l[k] = y at c0 c1 c2 c3 c4 c5 c6 c7 c8 c9 HLit
      cases bq
      · go_wp2_with fail
        refine wp_region_bw (by kernel_rfl) (by kernel_rfl) ?_
        repeat (go_big_quiet_step ((go_at_call 50; exact bw_call (HLit.out _))))
        refine wpQuiet_nil ?_
        rintro w2 ⟨⟨_, hbw⟩, rfl⟩
        have HB1 := hid (HB.out.trans (hbw.mono HB.out.size))
        clear hbw
        go_wp2_with fail
        go_roundw
        case rel => exact ⟨k + 1, by omega, by go_num, HB1.out, HNext.out (by simp)⟩
        case measure => simp [intOf]; omega
      · go_wp2_with fail
        refine wp_region_bw (by kernel_rfl) (by kernel_rfl) ?_
        repeat (go_big_quiet_step ((go_at_call 50; exact bw_call (HLit.out _))))
        refine wpQuiet_nil ?_
        rintro w2 ⟨⟨_, hbw⟩, rfl⟩
        have HB1 := hid (HW.out.trans (hbw.mono HW.out.size))
        clear hbw
        go_wp2_with fail
        go_ret
        exact ⟨by rw [← HR.out, HHit.out (by simp)]; rfl, HB1.out⟩
    · obtain rfl : k = l.length := by omega
      have hd : Hid (lookR m h p hs l = -1) := hid (look_none (fun j hj => HN.out j hj hj))
      go_wp2_with fail
      go_ret
      exact ⟨by rw [← HR.out, hd.out]; rfl, HW.out⟩
end C16
end Go.Proofs.Ytmmmaldpalhjeaa
namespace Go.Proofs.Ytmmmaldpalhjeaa
open Go.RowKit Go.Peri
namespace C12
/-- Does the next rule hit, and outrank the best so far? -/
def better (hit : Rl → Bool) (l : List Rl) (best : Int) (k : Nat) : Bool := hit (l.getD k default) && (decide (best < 0) || decide ((l.getD best.toNat default).rank < (l.getD k default).rank))
/-- The best of the first k. -/
def firstI (hit : Rl → Bool) (l : List Rl) : Nat → Int
  | 0 => -1
  | k + 1 => if better hit l (firstI hit l k) k then k else firstI hit l k
def firstR (hit : Rl → Bool) (l : List Rl) : Int := firstI hit l l.length
theorem firstI_lt (hit : Rl → Bool) (l : List Rl) : ∀ k, -1 ≤ firstI hit l k ∧ firstI hit l k < k
  | 0 => ⟨Int.le_refl _, by show (-1 : Int) < 0; decide⟩
  | k + 1 => by
    have := firstI_lt hit l k
    unfold firstI
    split
    · exact ⟨by omega, by omega⟩
    · exact ⟨this.1, by omega⟩
theorem firstI_neg (hit : Rl → Bool) (l : List Rl) (k : Nat) (hk : k < l.length) (hn : firstI hit l k < 0) : firstI hit l (k + 1) = if hit l[k] then (k : Int) else firstI hit l k := by
  have e : l.getD k default = l[k] := by simp [List.getD, hk]
  show (if better hit l (firstI hit l k) k then (k : Int) else firstI hit l k) = _
  unfold better
  rw [e, decide_eq_true hn]
  simp
theorem firstI_pos (hit : Rl → Bool) (l : List Rl) (k n : Nat) (hk : k < l.length) (hn : n < l.length) (he : firstI hit l k = n) : firstI hit l (k + 1) = if hit l[k] && decide (l[n].rank < l[k].rank) then (k : Int) else firstI hit l k := by
  have e : l.getD k default = l[k] := by simp [List.getD, hk]
  have e2 : l.getD n default = l[n] := by simp [List.getD, hn]
  show (if better hit l (firstI hit l k) k then (k : Int) else firstI hit l k) = _
  unfold better
  rw [he, e, Int.toNat_natCast, e2, decide_eq_false (show ¬ ((n : Int) < 0) by omega)]
  simp
end C12
end Go.Proofs.Ytmmmaldpalhjeaa
