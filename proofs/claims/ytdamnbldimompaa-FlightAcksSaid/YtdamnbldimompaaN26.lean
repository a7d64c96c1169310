/- Walks of layer 26 (flight): Step, of one batch; no condition. -/
import Derived.Test.YtdamnbldimompaaM26
namespace Go.Proofs.Ytdamnbldimompaa
open Go.RowKit Go.Peri
open Gen (flat_set set_mid get_mid map_take_snoc owns_at owns_num owns_le owns_below owns_form)
namespace C26
open Sq (rest ixQ atQ total bk benc)
/-- What lay in memory lies there still. -/
def Keeps (w w' : World) : Prop := w.heap.size ≤ w'.heap.size ∧ ∀ p : Addr, p.block < w.heap.size → w'.cell? p = w.cell? p
theorem Keeps.of_below {w w' : World} (h : Below w.heap.size w w') : Keeps w w' := ⟨h.size, fun p hp => h.cell hp⟩
theorem Keeps.trans {a b c : World} (h : Keeps a b) (k : Keeps b c) : Keeps a c := ⟨Nat.le_trans h.1 k.1, fun p hp => (k.2 p (Nat.lt_of_lt_of_le hp h.1)).trans (h.2 p hp)⟩
theorem Keeps.of_blk {w w' : World} {g : Nat} {cs : Array Value} {t : TypeId} (h : Blk w g cs t) (h' : Blk w' g cs t) (ho : Only [g] w w') : Keeps w w' := by
  refine ⟨ho.size, fun p hp => ?_⟩
  by_cases e : p.block = g
  · exact World.cell?_of_block (by rw [e]; exact h'.trans h.symm)
  · exact ho.cell hp (by simpa using e)
theorem rows_keeps {α : Type} {enc : α → List Value} {k : Nat} {w w' : World} {v : Value} {l : List α} (h : RowsOf (· < w.heap.size) enc k w v l) (hk : Keeps w w') : RowsOf (· < w'.heap.size) enc k w' v l := by
  obtain ⟨a, c, e, h1, h2, h3, h5⟩ := h
  refine ⟨a, c, e, h1, h2, h3, h5.imp id (fun ⟨b, off, q1, q2, q3⟩ => ⟨b, off, q1, Nat.lt_of_lt_of_le q2 hk.1, fun i hi j u hu => (hk.2 _ q2).trans (q3 i hi j u hu)⟩)⟩
theorem FR.keeps {w w' : World} {cl : List Sq} {a : Option Addr} {n cap : Nat} (h : FR w cl a n cap w) (hk : Keeps w w') : FR w' cl a n cap w' := by
  obtain ⟨l1, h1, h2, _, h4, h5⟩ := h
  exact ⟨l1, h1, h2, Below.refl _ _, rows_keeps h4 hk, fun x hx => rows_keeps (h5 x hx) hk⟩
theorem BAt.keeps {w w' : World} {q : Int × Int × List Sp} {v : Value} (h : BAt w q v) (hk : Keeps w w') : BAt w' q v := by
  obtain ⟨a, cap, k, h0, h1, h2, h3⟩ := h
  exact ⟨a, cap, k, h0, h1, rows_keeps h2 hk, rows_keeps h3 hk⟩
theorem Caps.drew {w : World} {B : Nat} {now retry tries : Int} {ag gv : Value} (h : Caps w B now retry tries ag gv) : Caps w.drew B now retry tries ag gv := ⟨h.now.drew, h.retry.drew, h.tries.drew, h.ag.drew, h.gv.drew⟩
def IsSl (v : Value) : Prop := ∃ a n c, v = .slice a n c
def StepQ (W : World) (r : Bool) (y : Sq) (P : World → Value → Value → Prop) (v : Value) (w' : World) : Prop := Below W.heap.size W w' ∧ ∃ v1 va vg, v = .tuple #[v1, va, vg] ∧ P w' va vg ∧ (r = true → ∃ a c, v1 = .slice a 1 c ∧ FR w' [y] a 1 c w') ∧ (r = false → v1 = .slice none 0 0)
set_option maxRecDepth 100000 in
set_option maxHeartbeats 8000000 in
theorem step_one (x : Sq) (t d : Int) (r : Bool) (now retry tries : Int) (P : World → Value → Value → Prop) (a : Option Addr) (cap : Nat) (W : World) (h : RowsOf (· < W.heap.size) Sq.enc 5 W (.slice a 1 cap) [x]) (ha : x.At (· < W.heap.size) W) (hps : x.sp.length ≤ 1000000)
    (hP : ∀ w w' va vg, P w va vg → Keeps w w' → P w' va vg) (hI : ∀ w va vg, P w va vg → IsSl va ∧ IsSl vg)
    (HL : ∀ (k : Sq) (w : World), Caps w W.heap.size now retry tries (.slice none 0 0) (.slice none 0 0) → k.core = x.core → k.At (fun b => b < w.heap.size ∧ (b < W.heap.size ∨ W.heap.size + 4 < b)) w → Calls Try.prog 46 #[.agg #[.int .i64 k.node, .int .i64 k.seq, .slice k.pa k.sp.length k.pcap, .int .i64 k.tries, .int .i64 k.due], .pointer (some ⟨W.heap.size, 0, none⟩), .pointer (some ⟨W.heap.size + 2, 0, none⟩), .pointer (some ⟨W.heap.size + 4, 0, none⟩), .pointer (some ⟨W.heap.size + 3, 0, none⟩), .pointer (some ⟨W.heap.size + 1, 0, none⟩)] w fun e w' => e = .returned (.tuple #[.agg #[.int .i64 k.node, .int .i64 k.seq, .slice k.pa k.sp.length k.pcap, .int .i64 t, .int .i64 d], .bool r]) ∧ Only [W.heap.size + 3, W.heap.size + 4] w w' ∧ Hid (∃ va vg, Caps w' W.heap.size now retry tries va vg ∧ P w' va vg)) :
    Calls Try.prog 31 #[.slice a 1 cap, .int .i64 now, .int .i64 retry, .int .i64 tries] W (Ret (StepQ W r { x.core with tries := t, due := d } P)) := by
  have HROW := hid h
  have HA := hid ha
  have HLL := hid HL
  have HPP := hid hP
  have HII := hid hI
  clear h ha HL hP hI
  go_enter Try.func31, Try.ntmps31
  go_upto_region 1 with fail
  refine wp_genF ?_
  intro w0 hw0
  have hb0 : Below W.heap.size W w0 := by rw [hw0]; go_grown
  have hc0 : Caps w0 W.heap.size now retry tries (.slice none 0 0) (.slice none 0 0) := by
    rw [hw0]
    exact ⟨((((Blk.new _ _ _).alloc _).alloc _).alloc _).alloc _, (((Blk.new' _ _ _ (by simp)).alloc _).alloc _).alloc _, ((Blk.new' _ _ _ (by simp)).alloc _).alloc _, (Blk.new' _ _ _ (by simp)).alloc _, Blk.new' _ _ _ (by simp)⟩
  clear hw0
  have HB0 := hid hb0
  have HC0 := hid hc0
  have hlt := hc0.lt
  have X := hid (each_one x t d r W.heap.size [W.heap.size + 3, W.heap.size + 4] (fun w => ∃ va vg, Caps w W.heap.size now retry tries va vg ∧ P w va vg) a cap w0 ((HROW.out.below hb0 (fun _ h => h)).imp (fun b h => Nat.lt_of_lt_of_le h hb0.size)) ((HA.out.below hb0 (fun _ h => h)).imp (fun b h => Nat.lt_of_lt_of_le h hb0.size)) hps (fun b hb => by simp at hb; omega) (fun w w' hr hb => by
    obtain ⟨va, vg, h1, h2⟩ := hr
    exact ⟨va, vg, h1.later hb, HPP.out _ _ _ _ h2 (Keeps.of_below hb)⟩) (fun k w hb hkc hat => HLL.out k w (hc0.later hb) hkc (hat.imp (fun b h => ⟨h.2, by have := h.1; omega⟩))))
  clear hb0 hc0 HROW HA HLL
  go_wp2_with fail
  refine X.out.mono ?_
  rintro e w1 ⟨v1, rfl, ho1, ⟨va, vg, hc1, hp1⟩, ht1, hf1⟩
  have hb1 : Below W.heap.size W w1 := HB0.out.trans (ho1.below HB0.out.size (fun b hb => by simp at hb; omega))
  have hcv : ∃ a1 n1 c1, v1 = .slice a1 n1 c1 := by
    cases r
    · exact ⟨none, 0, 0, hf1 rfl⟩
    · obtain ⟨a1, c1, e1, _⟩ := ht1 rfl
      exact ⟨a1, 1, c1, e1⟩
  obtain ⟨a1, n1, c1, rfl⟩ := hcv
  obtain ⟨⟨aa, na, ca, rfl⟩, ag, ng, cg, rfl⟩ := HII.out _ _ _ hp1
  have HC1 := hid hc1
  have z3 : w1.cell? ⟨W.heap.size + 3, 0, none⟩ = some (.slice aa na ca) := hc1.ag.cell 0
  have z4 : w1.cell? ⟨W.heap.size + 4, 0, none⟩ = some (.slice ag ng cg) := hc1.gv.cell 0
  have zf3 := hc1.ag.free 0
  have zf4 := hc1.gv.free 0
  have hl1 := hc1.lt
  have HFIN : Hid (StepQ W r { x.core with tries := t, due := d } P (.tuple #[.slice a1 n1 c1, .slice aa na ca, .slice ag ng cg]) ((w1.drew.setCell ⟨W.heap.size + 3, 0, none⟩ (.slice aa na ca)).setCell ⟨W.heap.size + 4, 0, none⟩ (.slice ag ng cg))) := hid (by
    have k1 : Keeps w1 w1.drew := ⟨Nat.le_refl _, fun p hp => rfl⟩
    have o2 : Only [W.heap.size + 3] w1.drew (w1.drew.setCell ⟨W.heap.size + 3, 0, none⟩ (.slice aa na ca)) := (Only.refl _ _).setCell (by simp) _
    have k2 : Keeps w1.drew (w1.drew.setCell ⟨W.heap.size + 3, 0, none⟩ (.slice aa na ca)) := Keeps.of_blk hc1.drew.ag (hc1.drew.setAg _).ag o2
    have o3 : Only [W.heap.size + 4] (w1.drew.setCell ⟨W.heap.size + 3, 0, none⟩ (.slice aa na ca)) ((w1.drew.setCell ⟨W.heap.size + 3, 0, none⟩ (.slice aa na ca)).setCell ⟨W.heap.size + 4, 0, none⟩ (.slice ag ng cg)) := (Only.refl _ _).setCell (by simp) _
    have k3 := Keeps.of_blk (hc1.drew.setAg (.slice aa na ca)).gv ((hc1.drew.setAg (.slice aa na ca)).setGv (.slice ag ng cg)).gv o3
    have kk := (k1.trans k2).trans k3
    have oo : Only [W.heap.size + 3, W.heap.size + 4] w1 _ := ((Only.refl _ w1).drew.trans (o2.mono (by simp))).trans (o3.mono (by simp))
    refine ⟨hb1.trans (oo.below hb1.size (fun b hb => by simp at hb; omega)), _, _, _, rfl, HPP.out _ _ _ _ hp1 kk, fun hr => ?_, hf1⟩
    obtain ⟨a9, c9, e9, f9⟩ := ht1 hr
    exact ⟨a9, c9, e9, f9.keeps kk⟩)
  have KEEP : Hid (∀ w', Caps w' W.heap.size now retry tries (.slice aa na ca) (.slice ag ng cg) → w'.cell? ⟨W.heap.size + 3, 0, none⟩ = some (.slice aa na ca) ∧ w'.cell? ⟨W.heap.size + 4, 0, none⟩ = some (.slice ag ng cg)) := hid (fun w' hc => ⟨hc.ag.cell 0, hc.gv.cell 0⟩)
  clear hc1 hp1 ht1 hf1 hb1 ho1 X HB0 HC0 HPP HII hlt
  go_wp2_with fail
  refine wp_region_held_drew (S := (fun w' => w'.cell? ⟨W.heap.size + 3, 0, none⟩ = some (.slice aa na ca) ∧ w'.cell? ⟨W.heap.size + 4, 0, none⟩ = some (.slice ag ng cg))) (by kernel_rfl) (by (refine KEEP.out _ ?_; (first | exact HC1.out.drew | exact HC1.out.drew.setAg _ | exact (HC1.out.drew.setAg _).setGv _))) (fun hHeld => ?_)
  refine wpAnyH_take (i := 0) (oi := ⟨_, _, _, _, _, _⟩) (v := ?_) rfl (by kernel_rfl) (by kernel_rfl) (by kernel_rfl) (fun _ _ _ h => h) (Or.inl ⟨by rfl, ?_⟩) hHeld ?_
  rotate_left
  · (intro w hSw; (try dsimp only at hSw); go_simp) <;> with_reducible rfl
  try simp only [Act.put, List.setIfInBounds_toArray, List.set_cons_zero, List.set_cons_succ]
  refine wpAnyH_take (i := 1) (oi := ⟨_, _, _, _, _, _⟩) (v := ?_) rfl (by kernel_rfl) (by kernel_rfl) (by kernel_rfl) (fun _ _ _ h => h) (Or.inl ⟨by rfl, ?_⟩) hHeld ?_
  rotate_left
  · (intro w hSw; (try dsimp only at hSw); go_simp) <;> with_reducible rfl
  try simp only [Act.put, List.setIfInBounds_toArray, List.set_cons_zero, List.set_cons_succ]
  refine wpAnyH_take (i := 2) (oi := ⟨_, _, _, _, _, _⟩) (v := ?_) rfl (by kernel_rfl) (by kernel_rfl) (by kernel_rfl) (fun _ _ _ h => h) (Or.inl ⟨by rfl, ?_⟩) hHeld ?_
  rotate_left
  · (intro w hSw; (try dsimp only at hSw); go_simp) <;> with_reducible rfl
  try simp only [Act.put, List.setIfInBounds_toArray, List.set_cons_zero, List.set_cons_succ]
  refine wpAnyH_take (i := 3) (oi := ⟨_, _, _, _, _, _⟩) (v := ?_) rfl (by kernel_rfl) (by kernel_rfl) (by kernel_rfl) (fun _ _ _ h => h) (Or.inl ⟨by rfl, ?_⟩) hHeld ?_
  rotate_left
  · (intro w hSw; (try dsimp only at hSw); go_simp) <;> with_reducible rfl
  try simp only [Act.put, List.setIfInBounds_toArray, List.set_cons_zero, List.set_cons_succ]
  refine wpAnyH_ready (rs := [4]) (by kernel_rfl) (by simp) ?_
  refine AllReadyH.cons (o := ⟨_, _, _, _, _, _⟩) rfl (fun K hK => ?_) AllReadyH.nil
  clear hHeld
  go_simp
  refine hK.out _ _ (by (refine KEEP.out _ ?_; (first | exact HC1.out.drew | exact HC1.out.drew.setAg _ | exact (HC1.out.drew.setAg _).setGv _))) (fun hHeld => ?_)
  clear hK K
  try simp only [Act.put, List.setIfInBounds_toArray, List.set_cons_zero, List.set_cons_succ]
  refine wpAnyH_ready (rs := [5]) (by kernel_rfl) (by simp) ?_
  refine AllReadyH.cons (o := ⟨_, _, _, _, _, _⟩) rfl (fun K hK => ?_) AllReadyH.nil
  clear hHeld
  go_simp
  refine hK.out _ _ (by (refine KEEP.out _ ?_; (first | exact HC1.out.drew | exact HC1.out.drew.setAg _ | exact (HC1.out.drew.setAg _).setGv _))) (fun hHeld => ?_)
  clear hK K
  try simp only [Act.put, List.setIfInBounds_toArray, List.set_cons_zero, List.set_cons_succ]
  refine wpAnyH_done (by kernel_rfl) ?_ _
  go_wp2_with fail
  refine bodyPost_ret (by simp [results, Try.results31, go_sem, z3, z4, zf3, zf4]; try rfl) rfl ?_
  exact ⟨_, rfl, HFIN.out⟩
/-- The three arms. -/
theorem step_rest (x : Sq) (now retry tries : Int) (a : Option Addr) (cap : Nat) (W : World) (h : RowsOf (· < W.heap.size) Sq.enc 5 W (.slice a 1 cap) [x]) (ha : x.At (· < W.heap.size) W) (hps : x.sp.length ≤ 1000000) (hlt : clk now < x.due) :
    Calls Try.prog 31 #[.slice a 1 cap, .int .i64 now, .int .i64 retry, .int .i64 tries] W (Ret (StepQ W true x.core (fun _ va vg => va = .slice none 0 0 ∧ vg = .slice none 0 0))) := by
  refine step_one x x.tries x.due true now retry tries (fun _ va vg => va = .slice none 0 0 ∧ vg = .slice none 0 0) a cap W h ha hps (fun _ _ _ _ h _ => h) (fun w va vg h => ⟨⟨_, _, _, h.1⟩, _, _, _, h.2⟩) (fun k w hc hkc hat => ?_)
  have hk := Sq.core_eq hkc
  rw [← hk.2.2.2.1, ← hk.2.2.2.2]
  refine (litA k W.heap.size now retry tries _ _ w hc (by rw [hk.2.2.2.2]; exact hlt)).mono ?_
  rintro e w' ⟨rfl, hb⟩
  exact ⟨rfl, Only.of_below hb, _, _, hc.later hb, rfl, rfl⟩
theorem step_given (x : Sq) (now retry tries : Int) (a : Option Addr) (cap : Nat) (W : World) (h : RowsOf (· < W.heap.size) Sq.enc 5 W (.slice a 1 cap) [x]) (ha : x.At (· < W.heap.size) W) (hps : x.sp.length ≤ 1000000) (hge : ¬ clk now < x.due) (htr : tries ≤ x.tries) :
    Calls Try.prog 31 #[.slice a 1 cap, .int .i64 now, .int .i64 retry, .int .i64 tries] W (Ret (StepQ W false x.core (fun w va vg => va = .slice none 0 0 ∧ BAt w (bk x) vg))) := by
  refine step_one x x.tries x.due false now retry tries (fun w va vg => va = .slice none 0 0 ∧ BAt w (bk x) vg) a cap W h ha hps (fun _ _ _ _ h hk => ⟨h.1, h.2.keeps hk⟩) (fun w va vg h => ⟨⟨_, _, _, h.1⟩, ?_⟩) (fun k w hc hkc hat => ?_)
  · obtain ⟨_, _, _, e, _⟩ := h.2
    exact ⟨_, _, _, e⟩
  have hk := Sq.core_eq hkc
  have hbk : bk k = bk x := (Sq.bk_iff k x).2 ⟨hk.1, hk.2.1, hk.2.2.1⟩
  rw [← hk.2.2.2.1, ← hk.2.2.2.2]
  refine (litB k W.heap.size now retry tries _ w hc hat (by rw [hk.2.2.2.2]; exact hge) (by rw [hk.2.2.2.1]; exact htr)).mono ?_
  rintro e w' ⟨v, rfl, ho, hc2, hb2⟩
  rw [hbk] at hb2
  exact ⟨rfl, ho.mono (by simp), _, _, hc2, rfl, hb2⟩
theorem step_again (x : Sq) (now retry tries : Int) (a : Option Addr) (cap : Nat) (W : World) (h : RowsOf (· < W.heap.size) Sq.enc 5 W (.slice a 1 cap) [x]) (ha : x.At (· < W.heap.size) W) (hps : x.sp.length ≤ 1000000) (hge : ¬ clk now < x.due) (htr : ¬ tries ≤ x.tries) (htb : 0 ≤ x.tries ∧ x.tries ≤ 1000000) :
    Calls Try.prog 31 #[.slice a 1 cap, .int .i64 now, .int .i64 retry, .int .i64 tries] W (Ret (StepQ W true { x.core with tries := x.tries + 1, due := dueI now retry } (fun w va vg => BAt w (bk x) va ∧ vg = .slice none 0 0))) := by
  refine step_one x (x.tries + 1) (dueI now retry) true now retry tries (fun w va vg => BAt w (bk x) va ∧ vg = .slice none 0 0) a cap W h ha hps (fun _ _ _ _ h hk => ⟨h.1.keeps hk, h.2⟩) (fun w va vg h => ⟨?_, _, _, _, h.2⟩) (fun k w hc hkc hat => ?_)
  · obtain ⟨_, _, _, e, _⟩ := h.1
    exact ⟨_, _, _, e⟩
  have hk := Sq.core_eq hkc
  have hbk : bk k = bk x := (Sq.bk_iff k x).2 ⟨hk.1, hk.2.1, hk.2.2.1⟩
  rw [← hk.2.2.2.1]
  refine (litC k W.heap.size now retry tries _ w hc hat (by rw [hk.2.2.2.2]; exact hge) (by rw [hk.2.2.2.1]; exact htr) (by rw [hk.2.2.2.1]; exact htb) (by rw [hk.2.2.1]; exact hps)).mono ?_
  rintro e w' ⟨v, rfl, ho, hc2, hb2⟩
  rw [hbk] at hb2
  exact ⟨rfl, ho.mono (by simp), _, _, hc2, hb2, rfl⟩
end C26
end Go.Proofs.Ytdamnbldimompaa
