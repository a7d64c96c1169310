/- The law SnapRises walked (17); no condition. -/
import Derived.Test.YtmmmaldpalhjeaaMg18
import Derived.Test.YtmmmaldpalhjeaaMg10
import Derived.Deep.Cut
import Derived.Deep.RegionHeld3
namespace Go.Proofs.Ytmmmaldpalhjeaa
open Go.RowKit Go.Peri
namespace C17
open C12 (wp_gen)
open C14 (TabV.at')
/-- The holder, and the last table that was got, behind k pushes. -/
structure Rise (W : World) (g b6 : Nat) (v2 : Value) (ns : List ByteArray) (k : Nat) (n : Int) (lh : List Rl) (ah : Option Addr) (caph : Nat) (f : ByteArray) (tk rf : Int) (lx : List Rl) (ax : Option Addr) (capx : Nat) (wr : World) : Prop where
  hold : Hold 138 wr g [b6, g] v2 ns n lh ah caph f tk rf
  blk : Blk wr b6 #[.int .i64 n, .slice ax lx.length capx, .string f] 46
  tab : TabN wr [b6, g] lx ax capx f
  core : lh.map Rl.core = lx.map Rl.core
  inv : n ≠ 0 → C14.wholeB n f lh ns = true
  tk0 : 0 ≤ tk
  rf0 : 0 ≤ rf
  sum : tk + rf = k
  below : Below W.heap.size W wr
  len : lh.length ≤ 1000000
  ps : ∀ x ∈ lh, x.preds.length ≤ 1000000
theorem judge0 {ns : List ByteArray} {n n' : Int} {f : ByteArray} {l : List Rl} (h : judgeE ns n n' f l = 0) : C14.wholeB n' f l ns = true ∧ ¬ n' < n := by
  unfold judgeE at h
  split at h
  · exact absurd h (by decide)
  · rename_i h1
    split at h
    · exact absurd h (by decide)
    · rename_i h2
      exact ⟨by simpa using h1, h2⟩
theorem if_unwanted {b : Bool} {p q : Prop} (h : b = false) (hq : q) : if b = true then p else q := by
  subst h
  exact hq
theorem len_core' {l k : List Rl} (h : l.map Rl.core = k.map Rl.core) : l.length = k.length := by
  have := congrArg List.length h
  simpa using this
set_option maxRecDepth 100000 in
set_option maxHeartbeats 16000000 in
theorem rises_walk (K : Known) (ns : List ByteArray) (vn : Value) (ts : List Tb) (vt : Value) (W : World) (hn : RowsOf (· < W.heap.size) sEnc 1 W vn ns) (hl : ns.length * 16 ≤ 140737488351232) (ht : RowsOf (· < W.heap.size) Tb.enc 3 W vt ts) (htl : ts.length * 48 ≤ 140737488351232) (hw : ∀ t ∈ ts, t.Wf W W.heap.size) :
    Calls Try.prog 7 #[vn, vt] W fun e w' => e = .returned (.bool true) ∧ Below W.heap.size W w' := by
  have HK := hid K
  have HNM := hid (fun w' (hb : Below W.heap.size W w') => (hn.below hb (fun _ h => h)).imp (fun b h => Nat.lt_of_lt_of_le h hb.size))
  have HTV := hid (fun w' (hb : Below W.heap.size W w') (t : Tb) (h : t ∈ ts) => (fun g : TabV w' W.heap.size t.l t.a t.cap t.f => (⟨g.rows.imp (fun b h => Nat.lt_of_lt_of_le h hb.size), g.len, fun x hx => ⟨(g.wf x hx).rows.imp (fun b h => Nat.lt_of_lt_of_le h hb.size), (g.wf x hx).len, (g.wf x hx).preds, (g.wf x hx).rank, (g.wf x hx).target, (g.wf x hx).mirror⟩, g.f⟩ : TabV w' w'.heap.size t.l t.a t.cap t.f)) ((hw t h).below hb))
  have HNW := hid (fun (h20 : ns.length ≤ 20) => new_any vn ns W hn (by omega))
  obtain ⟨at_, capt, rfl, hlc, hcm, _, hcell⟩ := ht
  have HC := hid hcell
  obtain ⟨na, ncap, rfl⟩ := hn.form
  clear hn hcell hw
  by_cases h20 : 20 < ns.length
  · have hd : decide ((20 : Int) < (ns.length : Int)) = true := decide_eq_true (by omega)
    have HB0 := hid (Below.refl W.heap.size W)
    have i0 : (20 : Int) < (ns.length : Int) := by omega
    go_enter Try.func7, Try.ntmps7
    go_wp2_with fail
    refine (HK.out _).mono ?_
    rintro e wk ⟨rfl, hbk⟩
    have HBK := hid (HB0.out.trans (hbk.mono HB0.out.size))
    clear hbk
    go_wp2_with fail
    go_ret
    exact ⟨rfl, HBK.out⟩
  by_cases h30 : 30 < ts.length
  · have HB0 := hid (Below.refl W.heap.size W)
    have i0 : ¬ (20 : Int) < (ns.length : Int) := by omega
    have hd : decide ((20 : Int) < (ns.length : Int)) = false := decide_eq_false i0
    have i1 : (30 : Int) < (ts.length : Int) := by omega
    go_enter Try.func7, Try.ntmps7
    go_wp2_with fail
    refine (HK.out _).mono ?_
    rintro e wk ⟨rfl, hbk⟩
    have HBK := hid (HB0.out.trans (hbk.mono HB0.out.size))
    clear hbk
    go_wp2_with fail
    go_ret
    exact ⟨rfl, HBK.out⟩
  have i0 : ¬ (20 : Int) < (ns.length : Int) := by omega
  have hd : decide ((20 : Int) < (ns.length : Int)) = false := decide_eq_false i0
  have i1 : ¬ (30 : Int) < (ts.length : Int) := by omega
  have hd2 : decide ((30 : Int) < (ts.length : Int)) = false := decide_eq_false i1
  go_enter Try.func7, Try.ntmps7
  go_wp2_with fail
  refine (HNW.out (by omega)).mono ?_
  rintro e w2 ⟨g, v2, rfl, hg, hb2, hh2⟩
  have HB2 := hid hb2
  have HH2 := hid hh2.out
  clear hb2 hh2
  go_upto_region 5 with fail
  refine wp_gen ?_
  intro w3 hw3
  have hb3 : Below w2.heap.size w2 w3 := by rw [hw3]; go_grown
  have hk3 : Blk w3 w2.heap.size #[.int .i64 0, .slice none 0 0, .string ByteArray.empty] 46 := by rw [hw3]; exact Blk.new _ _ _
  clear hw3
  have HSTART : Hid (Rise W g w2.heap.size v2 ns 0 0 [] none 0 ByteArray.empty 0 0 [] none 0 w3) := hid ⟨HH2.out.more hb3 (Nat.le_refl _) hk3.lt, hk3, ⟨⟨RowsOf.nil _ _ _ _, by decide, by simp, by decide⟩, RowsOf.nil _ _ _ _, by simp⟩, rfl, fun h => absurd rfl h, by decide, by decide, rfl, HB2.out.trans (hb3.mono HB2.out.size), by decide, by simp⟩
  have hgx : g < w2.heap.size := HH2.out.blk.lt
  have hgW : W.heap.size ≤ w2.heap.size := HB2.out.size
  clear hb3 hk3 HB2 HH2
  generalize w2.heap.size = b6 at *
  have hgb : g ≠ b6 := by omega
  go_wp2_with fail
  go_loopw [7] (fun i wr => ∃ k : Nat, k ≤ ts.length ∧ i = .int .i64 k ∧ Hid (∃ n lh ah caph f tk rf lx ax capx, Rise W g b6 v2 ns k n lh ah caph f tk rf lx ax capx wr)) (fun i _ => ts.length - (intOf i).toNat)
  case atStart => exact ⟨0, Nat.zero_le _, rfl, hid ⟨_, _, _, _, _, _, _, _, _, _, HSTART.out⟩⟩
  case round =>
    obtain ⟨k, hk, rfl, hh⟩ := hrel
    obtain ⟨n, lh, ah, caph, f, tk, rf, lx, ax, capx, hB⟩ := hh.out
    clear hh
    have HBO := hid hB
    have HB := hid hB.below
    clear hB
    by_cases hlt : k < ts.length
    · obtain ⟨b, off, rfl, hpb, hc⟩ := HC.out.resolve_left (by intro e; rw [e] at hlt; simp at hlt)
      have HBT : Hid (∀ w', Below W.heap.size W w' → ∀ j u, ts[k].enc[j]? = some u → w'.cell? ⟨b, off + k * 3 + j, none⟩ = some u) := hid (fun w' hb j u hu => (hb.cell (p := ⟨b, off + k * 3 + j, none⟩) hpb).trans (hc k hlt j u hu))
      have HTK := hid (fun w' hb => HTV.out w' hb ts[k] (List.getElem_mem hlt))
      clear hc
      generalize ts[k] = t at HBT HTK
      obtain ⟨q, hq⟩ : ∃ q, C16.fewT t.l t.f = q := ⟨_, rfl⟩
      have HFW := hid (fun w' hb => C16.fewT_any t.n t.l t.a t.cap t.f q w' (HTK.out w' hb) (Nat.le_refl _) hq)
      have HPS : Hid (q = true → t.l.length ≤ 40 ∧ ∀ x ∈ t.l, x.preds.length ≤ 1000000) := hid (fun e => by
        subst e
        unfold C16.fewT at hq
        rw [Bool.and_eq_true] at hq
        exact ⟨Rl.few_len hq.2, fun r hr' => Nat.le_trans (Rl.few_preds hq.2 r hr') (by decide)⟩)
      clear hq
      have j0 : (0 : Int) ≤ (k : Int) := by omega
      have j1 : (k : Int) < (ts.length : Int) := by omega
      obtain ⟨e0, e1, e2⟩ := Tb.cells (HBT.out wr HB.out)
      go_wp2_with fail
      refine (HFW.out _ HB.out).mono ?_
      rintro e w4 ⟨rfl, hb4⟩
      have HB4 := hid (HB.out.trans (hb4.mono HB.out.size))
      have HS4 := hid hb4
      clear hb4 e0 e1 e2
      cases q
      · go_wp2_with fail
        refine (HK.out _).mono ?_
        rintro e wk ⟨rfl, hbk⟩
        have HBK := hid (HB4.out.trans (hbk.mono HB4.out.size))
        clear hbk
        go_wp2_with fail
        go_ret
        exact ⟨rfl, HBK.out⟩
      have HP := hid (HPS.out (by first | rfl | trivial))
      have HF : Hid (0 = 0) := hid rfl
      obtain ⟨e0, e1, e2⟩ := Tb.cells (HBT.out w4 HB4.out)
      obtain ⟨E, hE⟩ : ∃ E, judgeE ns n t.n t.f t.l = E := ⟨_, rfl⟩
      have hs1 := HBO.out.tk0
      have hs2 := HBO.out.rf0
      have hs3 := HBO.out.sum
      have HPU := hid (push_any w4 (HBO.out.hold.only0 HS4.out) (by omega) (by omega) (by omega) t.n t.l t.a t.cap t.f E (HTK.out w4 HB4.out) (by have := HP.out.1; omega) HP.out.2 hE)
      by_cases hE0 : E = 0
      · go_wp2_with fail
        refine HPU.out.mono ?_
        rintro e w5 ⟨rfl, ho5, l5, a5, cap5, hc5, hh5⟩
        rw [if_pos hE0] at hc5
        rw [if_pos hE0, if_pos hE0, if_pos hE0, if_pos hE0] at hh5
        have HB5 : Hid (Below W.heap.size W w5) := hid (HB4.out.trans (ho5.below HB4.out.size (fun k hk => by simp at hk; omega)))
        have HK5 := hid ((HBO.out.blk.later HS4.out).only ho5 (by simpa using hgb.symm))
        have HL5 := hid ((HBO.out.tab.only (S' := []) (by simp) (Only.of_below HS4.out)).only (S' := [g]) (by simp) ho5)
        have HH5 := hid hh5
        have HC5 := hid hc5
        have HLP : Hid (l5.length ≤ 1000000 ∧ ∀ x ∈ l5, x.preds.length ≤ 1000000) := hid ⟨by have := len_core' HC5.out; have := HP.out.1; omega, C14.psl_core HC5.out HP.out.2⟩
        have HSUM : Hid ((tk + 1) + rf = (k : Int) + 1 ∧ 0 ≤ (tk + 1) ∧ 0 ≤ rf) := hid ⟨by omega, by omega, by omega⟩
        have HINV : Hid (t.n ≠ 0 → C14.wholeB t.n t.f l5 ns = true) := hid (fun _ => by rw [C14.whole_core _ _ _ HC5.out]; exact (judge0 (hE.trans hE0)).1)
        have q1 : (decide (t.n < n)) = false := decide_eq_false (judge0 (hE.trans hE0)).2
        have HGT := hid (get_any w5 hh5 HLP.out.1 HLP.out.2)
        clear ho5 hc5 hh5 e0 e1 e2 HPU HFW
        go_wp2_with fail
        refine HGT.out.mono ?_
        rintro e w6 ⟨v6, rfl, l8, a8, cap8, rfl, hb6, hc8, hr8, ha8⟩
        have HC8 := hid hc8
        have htn6 : TabN w6 [b6, g] l8 a8 cap8 t.f := copyQ_tabN HH5.out.tab.tab.wf HLP.out.1 HH5.out.tab.tab.f HH5.out.lt hc8 hr8 ha8
        have hHH6 := HH5.out.only0 hb6
        have hHK6 := HK5.out.later hb6
        have hHL6 := HL5.out.only (S' := []) (by simp) (Only.of_below hb6)
        have hHB6 := HB5.out.trans (hb6.mono HB5.out.size)
        clear hb6 hc8 hr8 ha8 HGT
        go_upto_region 12 with fail
        refine wp_gen ?_
        intro w7 hw7
        have hb7 : Below w6.heap.size w6 w7 := by rw [hw7]; (repeat' (first | (with_reducible exact Below.refl _ _) | (with_reducible refine Below.setCell ?_ (by simp) _) | (with_reducible refine Below.drew ?_) | (with_reducible refine Below.alloc ?_ (Nat.le_refl _) _)))
        have hk7 : Blk w7 w6.heap.size #[.int .i64 t.n, .slice a8 l8.length cap8, .string t.f] 46 := by rw [hw7]; first | exact Blk.new _ _ _ | exact (Blk.new _ _ _).drew
        clear hw7
        have HQ7 := hid (hHK6.later hb7)
        have HH7 := hid (hHH6.only0 hb7)
        have HN7 := hid (htn6.only (S' := []) (by simp) (Only.of_below hb7))
        have HL7 := hid (hHL6.only (S' := []) (by simp) (Only.of_below hb7))
        have HB7 : Hid (Below W.heap.size W w7) := hid (hHB6.trans (hb7.mono hHB6.size))
        have HK7 := hid hk7
        have h67 : w6.heap.size < w7.heap.size := hk7.lt
        clear hb7 hk7 hHH6 hHK6 hHL6 hHB6 htn6
        generalize w6.heap.size = b9 at *
        have KEEP : Hid (∀ w', Below w7.heap.size w7 w' → w'.cell? ⟨b9, 0, none⟩ = some (.int .i64 t.n) ∧ w'.cell? ⟨b9, 1, none⟩ = some (.slice a8 l8.length cap8) ∧ w'.cell? ⟨b9, 2, none⟩ = some (.string t.f) ∧ w'.cell? ⟨b6, 0, none⟩ = some (.int .i64 n) ∧ w'.cell? ⟨b6, 1, none⟩ = some (.slice ax lx.length capx) ∧ w'.cell? ⟨b6, 2, none⟩ = some (.string f) ∧ w'.cell? ⟨b, off + k * 3, none⟩ = some (.int .i64 t.n) ∧ w'.cell? ⟨b, off + k * 3 + 1, none⟩ = some (.slice t.a t.l.length t.cap) ∧ w'.cell? ⟨b, off + k * 3 + 2, none⟩ = some (.string t.f)) := hid (fun w' hb =>
          have hh := HK7.out.later hb
          have hq := HQ7.out.later hb
          have he := Tb.cells (HBT.out w' (HB7.out.trans (hb.mono HB7.out.size)))
          ⟨hh.cell 0, hh.cell 1, hh.cell 2, hq.cell 0, hq.cell 1, hq.cell 2, he.1, he.2.1, he.2.2⟩)
        have XV : Hid (∀ w', Below w7.heap.size w7 w' → Calls Try.prog 38 #[.pointer (some ⟨g, 0, none⟩)] w' fun e w'' => e = .returned (.int .i64 t.n) ∧ w' = w'') := hid (fun w' hb => version_any g t.n w' ((HH7.out.only0 hb).blk.cell 4))
        have XS : Hid (∀ w', Below w7.heap.size w7 w' → Calls Try.prog 36 #[.agg #[.int .i64 t.n, .slice a8 l8.length cap8, .string t.f], .agg #[.int .i64 t.n, .slice t.a t.l.length t.cap, .string t.f]] w' fun e w'' => e = .returned (.bool true) ∧ Below w7.heap.size w7 w'') := hid (fun w' hb =>
          (same_core t.n l8 t.l a8 t.a cap8 t.cap t.f w' (C14.TabV.at' HN7.out.tab hb) (HTK.out w' (HB7.out.trans (hb.mono HB7.out.size))) (by have := len_core' HC8.out; have := HLP.out.1; omega) (C14.psl_core HC8.out HLP.out.2) (HC8.out.trans HC5.out)).mono (fun e w'' h => ⟨h.1, hb.trans (h.2.mono hb.size)⟩))
        have HWH : Hid (∀ w', Below w7.heap.size w7 w' → t.n ≠ 0 → Calls Try.prog 41 #[.agg #[.int .i64 t.n, .slice a8 l8.length cap8, .string t.f], .slice na ns.length ncap] w' fun e w'' => e = .returned (.bool true) ∧ Below w'.heap.size w' w'') := hid (fun w' hb hz =>
          C14.rwhole_any t.n l8 a8 cap8 t.f ns _ true w' (C14.TabV.at' HN7.out.tab hb) (by have := len_core' HC8.out; have := HLP.out.1; omega) (C14.psl_core HC8.out HLP.out.2) (HNM.out w' (HB7.out.trans (hb.mono HB7.out.size))) (by omega) (by rw [C14.whole_core _ _ _ HC8.out]; exact HINV.out hz))
        have q2 : (t.n != t.n) = false := by simp
        have q0 : (E != 0) = false := by simpa using hE0
        have q3 : (E == 0) = true := by simpa using hE0
        go_wp2_with fail
        refine wp_region_held_drew (S := (fun w' => w'.cell? ⟨b9, 0, none⟩ = some (.int .i64 t.n) ∧ w'.cell? ⟨b9, 1, none⟩ = some (.slice a8 l8.length cap8) ∧ w'.cell? ⟨b9, 2, none⟩ = some (.string t.f) ∧ w'.cell? ⟨b6, 0, none⟩ = some (.int .i64 n) ∧ w'.cell? ⟨b6, 1, none⟩ = some (.slice ax lx.length capx) ∧ w'.cell? ⟨b6, 2, none⟩ = some (.string f) ∧ w'.cell? ⟨b, off + k * 3, none⟩ = some (.int .i64 t.n) ∧ w'.cell? ⟨b, off + k * 3 + 1, none⟩ = some (.slice t.a t.l.length t.cap) ∧ w'.cell? ⟨b, off + k * 3 + 2, none⟩ = some (.string t.f))) (by kernel_rfl) (by refine KEEP.out _ ?_; (first | assumption | exact Below.refl _ _ | exact (Below.refl _ _).drew)) (fun hHeld => ?_)
        refine wpAnyH_take (i := 0) (oi := ⟨_, _, _, _, _, _⟩) (v := ?_) rfl (by kernel_rfl) (by kernel_rfl) (by kernel_rfl) (fun _ _ _ h => h) (Or.inl ⟨by rfl, ?_⟩) hHeld ?_
        rotate_left
        · (intro w hSw; (try dsimp only at hSw); go_simp) <;> with_reducible rfl
        try simp only [Act.put, List.setIfInBounds_toArray, List.set_cons_zero, List.set_cons_succ]
        refine wpAnyH_take (i := 1) (oi := ⟨_, _, _, _, _, _⟩) (v := ?_) rfl (by kernel_rfl) (by kernel_rfl) (by kernel_rfl) (fun _ _ _ h => h) (Or.inl ⟨by rfl, ?_⟩) hHeld ?_
        rotate_left
        · (intro w hSw; (try dsimp only at hSw); go_simp) <;> with_reducible rfl
        try simp only [Act.put, List.setIfInBounds_toArray, List.set_cons_zero, List.set_cons_succ]
        refine wpAnyH_take (i := 2) (oi := ⟨_, _, _, _, _, _⟩) (v := ?_) rfl (by kernel_rfl) (by kernel_rfl) (by kernel_rfl) (fun _ _ _ h => h) (Or.inl ⟨by rfl, ?_⟩) hHeld ?_
        rotate_left
        · (intro w hSw; (try dsimp only at hSw); go_simp) <;> with_reducible rfl
        try simp only [Act.put, List.setIfInBounds_toArray, List.set_cons_zero, List.set_cons_succ]
        refine wpAnyH_take (i := 3) (oi := ⟨_, _, _, _, _, _⟩) (v := undef) rfl (by kernel_rfl) (by kernel_rfl) (by kernel_rfl) (fun _ _ _ h => h) (Or.inr ⟨by rfl, rfl⟩) hHeld ?_
        try simp only [Act.put, List.setIfInBounds_toArray, List.set_cons_zero, List.set_cons_succ]
        refine wpAnyH_take (i := 4) (oi := ⟨_, _, _, _, _, _⟩) (v := undef) rfl (by kernel_rfl) (by kernel_rfl) (by kernel_rfl) (fun _ _ _ h => h) (Or.inr ⟨by rfl, rfl⟩) hHeld ?_
        try simp only [Act.put, List.setIfInBounds_toArray, List.set_cons_zero, List.set_cons_succ]
        refine wpAnyH_ready (rs := [5]) (by kernel_rfl) (by simp) ?_
        refine AllReadyH.cons (o := ⟨_, _, _, _, _, _⟩) rfl (fun K hK => ?_) AllReadyH.nil
        clear hHeld
        refine if_unwanted (by rfl) ?_
        refine hK.out _ _ (by refine KEEP.out _ ?_; (first | assumption | exact Below.refl _ _ | exact (Below.refl _ _).drew)) (fun hHeld => ?_)
        clear hK K
        try simp only [Act.put, List.setIfInBounds_toArray, List.set_cons_zero, List.set_cons_succ]
        refine wpAnyH_take (i := 6) (oi := ⟨_, _, _, _, _, _⟩) (v := undef) rfl (by kernel_rfl) (by kernel_rfl) (by kernel_rfl) (fun _ _ _ h => h) (Or.inr ⟨by rfl, rfl⟩) hHeld ?_
        try simp only [Act.put, List.setIfInBounds_toArray, List.set_cons_zero, List.set_cons_succ]
        refine wpAnyH_take (i := 7) (oi := ⟨_, _, _, _, _, _⟩) (v := ?_) rfl (by kernel_rfl) (by kernel_rfl) (by kernel_rfl) (fun _ _ _ h => h) (Or.inl ⟨by rfl, ?_⟩) hHeld ?_
        rotate_left
        · (intro w hSw; (try dsimp only at hSw); go_simp) <;> with_reducible rfl
        try simp only [Act.put, List.setIfInBounds_toArray, List.set_cons_zero, List.set_cons_succ]
        refine wpAnyH_take (i := 8) (oi := ⟨_, _, _, _, _, _⟩) (v := ?_) rfl (by kernel_rfl) (by kernel_rfl) (by kernel_rfl) (fun _ _ _ h => h) (Or.inl ⟨by rfl, ?_⟩) hHeld ?_
        rotate_left
        · (intro w hSw; (try dsimp only at hSw); go_simp) <;> with_reducible rfl
        try simp only [Act.put, List.setIfInBounds_toArray, List.set_cons_zero, List.set_cons_succ]
        refine wpAnyH_take (i := 9) (oi := ⟨_, _, _, _, _, _⟩) (v := ?_) rfl (by kernel_rfl) (by kernel_rfl) (by kernel_rfl) (fun _ _ _ h => h) (Or.inl ⟨by rfl, ?_⟩) hHeld ?_
        rotate_left
        · (intro w hSw; (try dsimp only at hSw); go_simp) <;> with_reducible rfl
        try simp only [Act.put, List.setIfInBounds_toArray, List.set_cons_zero, List.set_cons_succ]
        refine wpAnyH_take (i := 10) (oi := ⟨_, _, _, _, _, _⟩) (v := ?_) rfl (by kernel_rfl) (by kernel_rfl) (by kernel_rfl) (fun _ _ _ h => h) (Or.inl ⟨by rfl, ?_⟩) hHeld ?_
        rotate_left
        · (intro w hSw; (try dsimp only at hSw); go_simp) <;> with_reducible rfl
        try simp only [Act.put, List.setIfInBounds_toArray, List.set_cons_zero, List.set_cons_succ]
        refine wpAnyH_take (i := 11) (oi := ⟨_, _, _, _, _, _⟩) (v := ?_) rfl (by kernel_rfl) (by kernel_rfl) (by kernel_rfl) (fun _ _ _ h => h) (Or.inl ⟨by rfl, ?_⟩) hHeld ?_
        rotate_left
        · (intro w hSw; (try dsimp only at hSw); go_simp) <;> with_reducible rfl
        try simp only [Act.put, List.setIfInBounds_toArray, List.set_cons_zero, List.set_cons_succ]
        refine wpAnyH_take (i := 12) (oi := ⟨_, _, _, _, _, _⟩) (v := ?_) rfl (by kernel_rfl) (by kernel_rfl) (by kernel_rfl) (fun _ _ _ h => h) (Or.inl ⟨by rfl, ?_⟩) hHeld ?_
        rotate_left
        · (intro w hSw; (try dsimp only at hSw); go_simp) <;> with_reducible rfl
        try simp only [Act.put, List.setIfInBounds_toArray, List.set_cons_zero, List.set_cons_succ]
        refine wpAnyH_take (i := 13) (oi := ⟨_, _, _, _, _, _⟩) (v := ?_) rfl (by kernel_rfl) (by kernel_rfl) (by kernel_rfl) (fun _ _ _ h => h) (Or.inl ⟨by rfl, ?_⟩) hHeld ?_
        rotate_left
        · (intro w hSw; (try dsimp only at hSw); go_simp) <;> with_reducible rfl
        try simp only [Act.put, List.setIfInBounds_toArray, List.set_cons_zero, List.set_cons_succ]
        refine wpAnyH_take (i := 14) (oi := ⟨_, _, _, _, _, _⟩) (v := ?_) rfl (by kernel_rfl) (by kernel_rfl) (by kernel_rfl) (fun _ _ _ h => h) (Or.inl ⟨by rfl, ?_⟩) hHeld ?_
        rotate_left
        · (intro w hSw; (try dsimp only at hSw); go_simp) <;> with_reducible rfl
        try simp only [Act.put, List.setIfInBounds_toArray, List.set_cons_zero, List.set_cons_succ]
        refine wpAnyH_take (i := 15) (oi := ⟨_, _, _, _, _, _⟩) (v := ?_) rfl (by kernel_rfl) (by kernel_rfl) (by kernel_rfl) (fun _ _ _ h => h) (Or.inl ⟨by rfl, ?_⟩) hHeld ?_
        rotate_left
        · (intro w hSw; (try dsimp only at hSw); go_simp) <;> with_reducible rfl
        try simp only [Act.put, List.setIfInBounds_toArray, List.set_cons_zero, List.set_cons_succ]
        refine wpAnyH_take (i := 16) (oi := ⟨_, _, _, _, _, _⟩) (v := ?_) rfl (by kernel_rfl) (by kernel_rfl) (by kernel_rfl) (fun _ _ _ h => h) (Or.inl ⟨by rfl, ?_⟩) hHeld ?_
        rotate_left
        · (intro w hSw; (try dsimp only at hSw); go_simp) <;> with_reducible rfl
        try simp only [Act.put, List.setIfInBounds_toArray, List.set_cons_zero, List.set_cons_succ]
        refine wpAnyH_ready (rs := [17]) (by kernel_rfl) (by simp) ?_
        refine AllReadyH.cons (o := ⟨_, _, _, _, _, _⟩) rfl (fun K hK => ?_) AllReadyH.nil
        clear hHeld
        go_simp
        go_at_call 36
        refine (XS.out _ (by first | assumption | exact Below.refl _ _ | exact (Below.refl _ _).drew)).mono ?_
        rintro e wa ⟨rfl, hBa⟩
        refine hK.out _ _ (by refine KEEP.out _ ?_; (first | assumption | exact Below.refl _ _ | exact (Below.refl _ _).drew)) (fun hHeld => ?_)
        clear hK K
        try simp only [Act.put, List.setIfInBounds_toArray, List.set_cons_zero, List.set_cons_succ]
        refine wpAnyH_take (i := 18) (oi := ⟨_, _, _, _, _, _⟩) (v := ?_) rfl (by kernel_rfl) (by kernel_rfl) (by kernel_rfl) (fun _ _ _ h => h) (Or.inl ⟨by rfl, ?_⟩) hHeld ?_
        rotate_left
        · (intro w hSw; (try dsimp only at hSw); go_simp) <;> with_reducible rfl
        try simp only [Act.put, List.setIfInBounds_toArray, List.set_cons_zero, List.set_cons_succ]
        refine wpAnyH_take (i := 19) (oi := ⟨_, _, _, _, _, _⟩) (v := ?_) rfl (by kernel_rfl) (by kernel_rfl) (by kernel_rfl) (fun _ _ _ h => h) (Or.inl ⟨by rfl, ?_⟩) hHeld ?_
        rotate_left
        · (intro w hSw; (try dsimp only at hSw); go_simp) <;> with_reducible rfl
        try simp only [Act.put, List.setIfInBounds_toArray, List.set_cons_zero, List.set_cons_succ]
        refine wpAnyH_take (i := 20) (oi := ⟨_, _, _, _, _, _⟩) (v := ?_) rfl (by kernel_rfl) (by kernel_rfl) (by kernel_rfl) (fun _ _ _ h => h) (Or.inl ⟨by rfl, ?_⟩) hHeld ?_
        rotate_left
        · (intro w hSw; (try dsimp only at hSw); go_simp) <;> with_reducible rfl
        try simp only [Act.put, List.setIfInBounds_toArray, List.set_cons_zero, List.set_cons_succ]
        refine wpAnyH_take (i := 21) (oi := ⟨_, _, _, _, _, _⟩) (v := ?_) rfl (by kernel_rfl) (by kernel_rfl) (by kernel_rfl) (fun _ _ _ h => h) (Or.inl ⟨by rfl, ?_⟩) hHeld ?_
        rotate_left
        · (intro w hSw; (try dsimp only at hSw); go_simp) <;> with_reducible rfl
        try simp only [Act.put, List.setIfInBounds_toArray, List.set_cons_zero, List.set_cons_succ]
        refine wpAnyH_take (i := 22) (oi := ⟨_, _, _, _, _, _⟩) (v := ?_) rfl (by kernel_rfl) (by kernel_rfl) (by kernel_rfl) (fun _ _ _ h => h) (Or.inl ⟨by rfl, ?_⟩) hHeld ?_
        rotate_left
        · (intro w hSw; (try dsimp only at hSw); go_simp) <;> with_reducible rfl
        try simp only [Act.put, List.setIfInBounds_toArray, List.set_cons_zero, List.set_cons_succ]
        refine wpAnyH_take (i := 23) (oi := ⟨_, _, _, _, _, _⟩) (v := ?_) rfl (by kernel_rfl) (by kernel_rfl) (by kernel_rfl) (fun _ _ _ h => h) (Or.inl ⟨by rfl, ?_⟩) hHeld ?_
        rotate_left
        · (intro w hSw; (try dsimp only at hSw); go_simp) <;> with_reducible rfl
        try simp only [Act.put, List.setIfInBounds_toArray, List.set_cons_zero, List.set_cons_succ]
        refine wpAnyH_take (i := 24) (oi := ⟨_, _, _, _, _, _⟩) (v := ?_) rfl (by kernel_rfl) (by kernel_rfl) (by kernel_rfl) (fun _ _ _ h => h) (Or.inl ⟨by rfl, ?_⟩) hHeld ?_
        rotate_left
        · (intro w hSw; (try dsimp only at hSw); go_simp) <;> with_reducible rfl
        try simp only [Act.put, List.setIfInBounds_toArray, List.set_cons_zero, List.set_cons_succ]
        refine wpAnyH_take (i := 25) (oi := ⟨_, _, _, _, _, _⟩) (v := ?_) rfl (by kernel_rfl) (by kernel_rfl) (by kernel_rfl) (fun _ _ _ h => h) (Or.inl ⟨by rfl, ?_⟩) hHeld ?_
        rotate_left
        · (intro w hSw; (try dsimp only at hSw); go_simp) <;> with_reducible rfl
        try simp only [Act.put, List.setIfInBounds_toArray, List.set_cons_zero, List.set_cons_succ]
        refine wpAnyH_take (i := 26) (oi := ⟨_, _, _, _, _, _⟩) (v := ?_) rfl (by kernel_rfl) (by kernel_rfl) (by kernel_rfl) (fun _ _ _ h => h) (Or.inl ⟨by rfl, ?_⟩) hHeld ?_
        rotate_left
        · (intro w hSw; (try dsimp only at hSw); go_simp) <;> with_reducible rfl
        try simp only [Act.put, List.setIfInBounds_toArray, List.set_cons_zero, List.set_cons_succ]
        refine wpAnyH_take (i := 27) (oi := ⟨_, _, _, _, _, _⟩) (v := ?_) rfl (by kernel_rfl) (by kernel_rfl) (by kernel_rfl) (fun _ _ _ h => h) (Or.inl ⟨by rfl, ?_⟩) hHeld ?_
        rotate_left
        · (intro w hSw; (try dsimp only at hSw); go_simp) <;> with_reducible rfl
        try simp only [Act.put, List.setIfInBounds_toArray, List.set_cons_zero, List.set_cons_succ]
        refine wpAnyH_take (i := 28) (oi := ⟨_, _, _, _, _, _⟩) (v := ?_) rfl (by kernel_rfl) (by kernel_rfl) (by kernel_rfl) (fun _ _ _ h => h) (Or.inl ⟨by rfl, ?_⟩) hHeld ?_
        rotate_left
        · (intro w hSw; (try dsimp only at hSw); go_simp) <;> with_reducible rfl
        try simp only [Act.put, List.setIfInBounds_toArray, List.set_cons_zero, List.set_cons_succ]
        refine wpAnyH_take (i := 29) (oi := ⟨_, _, _, _, _, _⟩) (v := ?_) rfl (by kernel_rfl) (by kernel_rfl) (by kernel_rfl) (fun _ _ _ h => h) (Or.inl ⟨by rfl, ?_⟩) hHeld ?_
        rotate_left
        · (intro w hSw; (try dsimp only at hSw); go_simp) <;> with_reducible rfl
        try simp only [Act.put, List.setIfInBounds_toArray, List.set_cons_zero, List.set_cons_succ]
        refine wpAnyH_take (i := 30) (oi := ⟨_, _, _, _, _, _⟩) (v := ?_) rfl (by kernel_rfl) (by kernel_rfl) (by kernel_rfl) (fun _ _ _ h => h) (Or.inl ⟨by rfl, ?_⟩) hHeld ?_
        rotate_left
        · (intro w hSw; (try dsimp only at hSw); go_simp) <;> with_reducible rfl
        try simp only [Act.put, List.setIfInBounds_toArray, List.set_cons_zero, List.set_cons_succ]
        refine wpAnyH_take (i := 31) (oi := ⟨_, _, _, _, _, _⟩) (v := ?_) rfl (by kernel_rfl) (by kernel_rfl) (by kernel_rfl) (fun _ _ _ h => h) (Or.inl ⟨by rfl, ?_⟩) hHeld ?_
        rotate_left
        · (intro w hSw; (try dsimp only at hSw); go_simp) <;> with_reducible rfl
        try simp only [Act.put, List.setIfInBounds_toArray, List.set_cons_zero, List.set_cons_succ]
        refine wpAnyH_ready (rs := [32]) (by kernel_rfl) (by simp) ?_
        refine AllReadyH.cons (o := ⟨_, _, _, _, _, _⟩) rfl (fun K hK => ?_) AllReadyH.nil
        clear hHeld
        go_simp
        go_at_call 38
        refine (XV.out _ (by first | assumption | exact Below.refl _ _ | exact (Below.refl _ _).drew)).mono ?_
        rintro e w' ⟨rfl, rfl⟩
        refine hK.out _ _ (by refine KEEP.out _ ?_; (first | assumption | exact Below.refl _ _ | exact (Below.refl _ _).drew)) (fun hHeld => ?_)
        clear hK K
        try simp only [Act.put, List.setIfInBounds_toArray, List.set_cons_zero, List.set_cons_succ]
        refine wpAnyH_take (i := 33) (oi := ⟨_, _, _, _, _, _⟩) (v := ?_) rfl (by kernel_rfl) (by kernel_rfl) (by kernel_rfl) (fun _ _ _ h => h) (Or.inl ⟨by rfl, ?_⟩) hHeld ?_
        rotate_left
        · (intro w hSw; (try dsimp only at hSw); go_simp) <;> with_reducible rfl
        try simp only [Act.put, List.setIfInBounds_toArray, List.set_cons_zero, List.set_cons_succ]
        refine wpAnyH_take (i := 34) (oi := ⟨_, _, _, _, _, _⟩) (v := ?_) rfl (by kernel_rfl) (by kernel_rfl) (by kernel_rfl) (fun _ _ _ h => h) (Or.inl ⟨by rfl, ?_⟩) hHeld ?_
        rotate_left
        · (intro w hSw; (try dsimp only at hSw); go_simp) <;> with_reducible rfl
        try simp only [Act.put, List.setIfInBounds_toArray, List.set_cons_zero, List.set_cons_succ]
        refine wpAnyH_done (by kernel_rfl) ?_ _
        have HBA := hid hBa
        have HBW : Hid (Below W.heap.size W wa) := hid (HB7.out.trans (hBa.mono HB7.out.size))
        clear hBa
        by_cases hz : t.n = 0
        · have q4 : (t.n != 0) = false := by simpa using hz
          clear hz
          have HK6 := hid (HQ7.out.later HBA.out)
          have HH6 := hid (HH7.out.only0 HBA.out)
          have HT6 := hid (HN7.out.only (S' := []) (by simp) (Only.of_below HBA.out))
          have HB6 := HBW
          obtain ⟨p0, p1, p2, o0, o1, o2, e0, e1, e2⟩ := KEEP.out _ HBA.out
          have r0 := HK6.out.free 0
          have r1 := HK6.out.free 1
          have r2 := HK6.out.free 2
          go_upto_region 7 with fail
          refine wp_gen ?_
          intro wz hwz
          have hoz : Only [b6] wa wz := by rw [hwz]; (repeat' (first | (with_reducible refine Only.setCell ?_ (by simp) _) | (with_reducible refine Only.drew ?_) | (with_reducible exact Only.refl _ _)))
          have hkz : Blk wz b6 #[.int .i64 t.n, .slice a8 l8.length cap8, .string t.f] 46 := by rw [hwz]; exact ((HK6.out.set 0 _).set 1 _).set 2 _
          clear hwz
          have HFI : Hid (Rise W g b6 v2 ns (k + 1) t.n l5 a5 cap5 t.f (tk + 1) rf l8 a8 cap8 wz) := hid ⟨HH6.out.only (S' := [b6]) (by simp) (by simpa using hgb) hoz, hkz, HT6.out.only (S' := [b6]) (by simp) hoz, HC8.out.symm, HINV.out, HSUM.out.2.1, HSUM.out.2.2, by push_cast; exact HSUM.out.1, HB6.out.trans (hoz.below HB6.out.size (fun k hk => by simp at hk; omega)), HLP.out.1, HLP.out.2⟩
          clear hoz hkz
          go_wp2_with fail
          go_roundw
          case rel => exact ⟨k + 1, by omega, by go_num, hid ⟨_, _, _, _, _, _, _, _, _, _, HFI.out⟩⟩
          case measure => simp [intOf]; omega
        · have q4 : (t.n != 0) = true := by simpa using hz
          obtain ⟨p0, p1, p2, o0, o1, o2, e0, e1, e2⟩ := KEEP.out _ HBA.out
          have HWC := hid (HWH.out wa HBA.out hz)
          go_wp2_with fail
          refine HWC.out.mono ?_
          rintro e wb ⟨rfl, hbb⟩
          have HBB : Hid (Below w7.heap.size w7 wb) := hid (HBA.out.trans (hbb.mono HBA.out.size))
          have HB6 : Hid (Below W.heap.size W wb) := hid (HB7.out.trans (HBB.out.mono HB7.out.size))
          clear hbb HWC p0 p1 p2 o0 o1 o2 e0 e1 e2
          have HK6 := hid (HQ7.out.later HBB.out)
          have HH6 := hid (HH7.out.only0 HBB.out)
          have HT6 := hid (HN7.out.only (S' := []) (by simp) (Only.of_below HBB.out))
          obtain ⟨p0, p1, p2, o0, o1, o2, e0, e1, e2⟩ := KEEP.out _ HBB.out
          have r0 := HK6.out.free 0
          have r1 := HK6.out.free 1
          have r2 := HK6.out.free 2
          go_upto_region 7 with fail
          refine wp_gen ?_
          intro wz hwz
          have hoz : Only [b6] wb wz := by rw [hwz]; (repeat' (first | (with_reducible refine Only.setCell ?_ (by simp) _) | (with_reducible refine Only.drew ?_) | (with_reducible exact Only.refl _ _)))
          have hkz : Blk wz b6 #[.int .i64 t.n, .slice a8 l8.length cap8, .string t.f] 46 := by rw [hwz]; exact ((HK6.out.set 0 _).set 1 _).set 2 _
          clear hwz
          have HFI : Hid (Rise W g b6 v2 ns (k + 1) t.n l5 a5 cap5 t.f (tk + 1) rf l8 a8 cap8 wz) := hid ⟨HH6.out.only (S' := [b6]) (by simp) (by simpa using hgb) hoz, hkz, HT6.out.only (S' := [b6]) (by simp) hoz, HC8.out.symm, HINV.out, HSUM.out.2.1, HSUM.out.2.2, by push_cast; exact HSUM.out.1, HB6.out.trans (hoz.below HB6.out.size (fun k hk => by simp at hk; omega)), HLP.out.1, HLP.out.2⟩
          clear hoz hkz
          go_wp2_with fail
          go_roundw
          case rel => exact ⟨k + 1, by omega, by go_num, hid ⟨_, _, _, _, _, _, _, _, _, _, HFI.out⟩⟩
          case measure => simp [intOf]; omega
      · go_wp2_with fail
        refine HPU.out.mono ?_
        rintro e w5 ⟨rfl, ho5, l5, a5, cap5, hc5, hh5⟩
        rw [if_neg hE0] at hc5
        rw [if_neg hE0, if_neg hE0, if_neg hE0, if_neg hE0] at hh5
        have HB5 : Hid (Below W.heap.size W w5) := hid (HB4.out.trans (ho5.below HB4.out.size (fun k hk => by simp at hk; omega)))
        have HK5 := hid ((HBO.out.blk.later HS4.out).only ho5 (by simpa using hgb.symm))
        have HL5 := hid ((HBO.out.tab.only (S' := []) (by simp) (Only.of_below HS4.out)).only (S' := [g]) (by simp) ho5)
        have HH5 := hid hh5
        have HC5 := hid hc5
        have HLP : Hid (l5.length ≤ 1000000 ∧ ∀ x ∈ l5, x.preds.length ≤ 1000000) := hid ⟨by have := len_core' HC5.out; have := HBO.out.len; omega, C14.psl_core HC5.out HBO.out.ps⟩
        have HSUM : Hid (tk + (rf + 1) = (k : Int) + 1 ∧ 0 ≤ tk ∧ 0 ≤ (rf + 1)) := hid ⟨by omega, by omega, by omega⟩
        have HINV : Hid (n ≠ 0 → C14.wholeB n f l5 ns = true) := hid (fun h => by rw [C14.whole_core _ _ _ HC5.out]; exact HBO.out.inv h)
        have q1 : (decide (n < n)) = false := decide_eq_false (by omega)
        have HGT := hid (get_any w5 hh5 HLP.out.1 HLP.out.2)
        clear ho5 hc5 hh5 e0 e1 e2 HPU HFW
        go_wp2_with fail
        refine HGT.out.mono ?_
        rintro e w6 ⟨v6, rfl, l8, a8, cap8, rfl, hb6, hc8, hr8, ha8⟩
        have HC8 := hid hc8
        have htn6 : TabN w6 [b6, g] l8 a8 cap8 f := copyQ_tabN HH5.out.tab.tab.wf HLP.out.1 HH5.out.tab.tab.f HH5.out.lt hc8 hr8 ha8
        have hHH6 := HH5.out.only0 hb6
        have hHK6 := HK5.out.later hb6
        have hHL6 := HL5.out.only (S' := []) (by simp) (Only.of_below hb6)
        have hHB6 := HB5.out.trans (hb6.mono HB5.out.size)
        clear hb6 hc8 hr8 ha8 HGT
        go_upto_region 12 with fail
        refine wp_gen ?_
        intro w7 hw7
        have hb7 : Below w6.heap.size w6 w7 := by rw [hw7]; (repeat' (first | (with_reducible exact Below.refl _ _) | (with_reducible refine Below.setCell ?_ (by simp) _) | (with_reducible refine Below.drew ?_) | (with_reducible refine Below.alloc ?_ (Nat.le_refl _) _)))
        have hk7 : Blk w7 w6.heap.size #[.int .i64 n, .slice a8 l8.length cap8, .string f] 46 := by rw [hw7]; first | exact Blk.new _ _ _ | exact (Blk.new _ _ _).drew
        clear hw7
        have HQ7 := hid (hHK6.later hb7)
        have HH7 := hid (hHH6.only0 hb7)
        have HN7 := hid (htn6.only (S' := []) (by simp) (Only.of_below hb7))
        have HL7 := hid (hHL6.only (S' := []) (by simp) (Only.of_below hb7))
        have HB7 : Hid (Below W.heap.size W w7) := hid (hHB6.trans (hb7.mono hHB6.size))
        have HK7 := hid hk7
        have h67 : w6.heap.size < w7.heap.size := hk7.lt
        clear hb7 hk7 hHH6 hHK6 hHL6 hHB6 htn6
        generalize w6.heap.size = b9 at *
        have KEEP : Hid (∀ w', Below w7.heap.size w7 w' → w'.cell? ⟨b9, 0, none⟩ = some (.int .i64 n) ∧ w'.cell? ⟨b9, 1, none⟩ = some (.slice a8 l8.length cap8) ∧ w'.cell? ⟨b9, 2, none⟩ = some (.string f) ∧ w'.cell? ⟨b6, 0, none⟩ = some (.int .i64 n) ∧ w'.cell? ⟨b6, 1, none⟩ = some (.slice ax lx.length capx) ∧ w'.cell? ⟨b6, 2, none⟩ = some (.string f) ∧ w'.cell? ⟨b, off + k * 3, none⟩ = some (.int .i64 t.n) ∧ w'.cell? ⟨b, off + k * 3 + 1, none⟩ = some (.slice t.a t.l.length t.cap) ∧ w'.cell? ⟨b, off + k * 3 + 2, none⟩ = some (.string t.f)) := hid (fun w' hb =>
          have hh := HK7.out.later hb
          have hq := HQ7.out.later hb
          have he := Tb.cells (HBT.out w' (HB7.out.trans (hb.mono HB7.out.size)))
          ⟨hh.cell 0, hh.cell 1, hh.cell 2, hq.cell 0, hq.cell 1, hq.cell 2, he.1, he.2.1, he.2.2⟩)
        have XV : Hid (∀ w', Below w7.heap.size w7 w' → Calls Try.prog 38 #[.pointer (some ⟨g, 0, none⟩)] w' fun e w'' => e = .returned (.int .i64 n) ∧ w' = w'') := hid (fun w' hb => version_any g n w' ((HH7.out.only0 hb).blk.cell 4))
        have XS : Hid (∀ w', Below w7.heap.size w7 w' → Calls Try.prog 36 #[.agg #[.int .i64 n, .slice a8 l8.length cap8, .string f], .agg #[.int .i64 n, .slice ax lx.length capx, .string f]] w' fun e w'' => e = .returned (.bool true) ∧ Below w7.heap.size w7 w'') := hid (fun w' hb =>
          (same_core n l8 lx a8 ax cap8 capx f w' (C14.TabV.at' HN7.out.tab hb) (C14.TabV.at' HL7.out.tab hb) (by have := len_core' HC8.out; have := HLP.out.1; omega) (C14.psl_core HC8.out HLP.out.2) (HC8.out.trans (HC5.out.trans HBO.out.core))).mono (fun e w'' h => ⟨h.1, hb.trans (h.2.mono hb.size)⟩))
        have HWH : Hid (∀ w', Below w7.heap.size w7 w' → n ≠ 0 → Calls Try.prog 41 #[.agg #[.int .i64 n, .slice a8 l8.length cap8, .string f], .slice na ns.length ncap] w' fun e w'' => e = .returned (.bool true) ∧ Below w'.heap.size w' w'') := hid (fun w' hb hz =>
          C14.rwhole_any n l8 a8 cap8 f ns _ true w' (C14.TabV.at' HN7.out.tab hb) (by have := len_core' HC8.out; have := HLP.out.1; omega) (C14.psl_core HC8.out HLP.out.2) (HNM.out w' (HB7.out.trans (hb.mono HB7.out.size))) (by omega) (by rw [C14.whole_core _ _ _ HC8.out]; exact HINV.out hz))
        have q2 : (n != n) = false := by simp
        have q0 : (E != 0) = true := by simpa using hE0
        have q3 : (E == 0) = false := by simpa using hE0
        go_wp2_with fail
        refine wp_region_held_drew (S := (fun w' => w'.cell? ⟨b9, 0, none⟩ = some (.int .i64 n) ∧ w'.cell? ⟨b9, 1, none⟩ = some (.slice a8 l8.length cap8) ∧ w'.cell? ⟨b9, 2, none⟩ = some (.string f) ∧ w'.cell? ⟨b6, 0, none⟩ = some (.int .i64 n) ∧ w'.cell? ⟨b6, 1, none⟩ = some (.slice ax lx.length capx) ∧ w'.cell? ⟨b6, 2, none⟩ = some (.string f) ∧ w'.cell? ⟨b, off + k * 3, none⟩ = some (.int .i64 t.n) ∧ w'.cell? ⟨b, off + k * 3 + 1, none⟩ = some (.slice t.a t.l.length t.cap) ∧ w'.cell? ⟨b, off + k * 3 + 2, none⟩ = some (.string t.f))) (by kernel_rfl) (by refine KEEP.out _ ?_; (first | assumption | exact Below.refl _ _ | exact (Below.refl _ _).drew)) (fun hHeld => ?_)
        refine wpAnyH_take (i := 0) (oi := ⟨_, _, _, _, _, _⟩) (v := ?_) rfl (by kernel_rfl) (by kernel_rfl) (by kernel_rfl) (fun _ _ _ h => h) (Or.inl ⟨by rfl, ?_⟩) hHeld ?_
        rotate_left
        · (intro w hSw; (try dsimp only at hSw); go_simp) <;> with_reducible rfl
        try simp only [Act.put, List.setIfInBounds_toArray, List.set_cons_zero, List.set_cons_succ]
        refine wpAnyH_take (i := 1) (oi := ⟨_, _, _, _, _, _⟩) (v := ?_) rfl (by kernel_rfl) (by kernel_rfl) (by kernel_rfl) (fun _ _ _ h => h) (Or.inl ⟨by rfl, ?_⟩) hHeld ?_
        rotate_left
        · (intro w hSw; (try dsimp only at hSw); go_simp) <;> with_reducible rfl
        try simp only [Act.put, List.setIfInBounds_toArray, List.set_cons_zero, List.set_cons_succ]
        refine wpAnyH_take (i := 2) (oi := ⟨_, _, _, _, _, _⟩) (v := ?_) rfl (by kernel_rfl) (by kernel_rfl) (by kernel_rfl) (fun _ _ _ h => h) (Or.inl ⟨by rfl, ?_⟩) hHeld ?_
        rotate_left
        · (intro w hSw; (try dsimp only at hSw); go_simp) <;> with_reducible rfl
        try simp only [Act.put, List.setIfInBounds_toArray, List.set_cons_zero, List.set_cons_succ]
        refine wpAnyH_take (i := 3) (oi := ⟨_, _, _, _, _, _⟩) (v := ?_) rfl (by kernel_rfl) (by kernel_rfl) (by kernel_rfl) (fun _ _ _ h => h) (Or.inl ⟨by rfl, ?_⟩) hHeld ?_
        rotate_left
        · (intro w hSw; (try dsimp only at hSw); go_simp) <;> with_reducible rfl
        try simp only [Act.put, List.setIfInBounds_toArray, List.set_cons_zero, List.set_cons_succ]
        refine wpAnyH_take (i := 4) (oi := ⟨_, _, _, _, _, _⟩) (v := ?_) rfl (by kernel_rfl) (by kernel_rfl) (by kernel_rfl) (fun _ _ _ h => h) (Or.inl ⟨by rfl, ?_⟩) hHeld ?_
        rotate_left
        · (intro w hSw; (try dsimp only at hSw); go_simp) <;> with_reducible rfl
        try simp only [Act.put, List.setIfInBounds_toArray, List.set_cons_zero, List.set_cons_succ]
        refine wpAnyH_ready (rs := [5]) (by kernel_rfl) (by simp) ?_
        refine AllReadyH.cons (o := ⟨_, _, _, _, _, _⟩) rfl (fun K hK => ?_) AllReadyH.nil
        clear hHeld
        go_simp
        go_at_call 36
        refine (XS.out _ (by first | assumption | exact Below.refl _ _ | exact (Below.refl _ _).drew)).mono ?_
        rintro e wa ⟨rfl, hBa⟩
        refine hK.out _ _ (by refine KEEP.out _ ?_; (first | assumption | exact Below.refl _ _ | exact (Below.refl _ _).drew)) (fun hHeld => ?_)
        clear hK K
        try simp only [Act.put, List.setIfInBounds_toArray, List.set_cons_zero, List.set_cons_succ]
        refine wpAnyH_take (i := 6) (oi := ⟨_, _, _, _, _, _⟩) (v := ?_) rfl (by kernel_rfl) (by kernel_rfl) (by kernel_rfl) (fun _ _ _ h => h) (Or.inl ⟨by rfl, ?_⟩) hHeld ?_
        rotate_left
        · (intro w hSw; (try dsimp only at hSw); go_simp) <;> with_reducible rfl
        try simp only [Act.put, List.setIfInBounds_toArray, List.set_cons_zero, List.set_cons_succ]
        refine wpAnyH_take (i := 7) (oi := ⟨_, _, _, _, _, _⟩) (v := ?_) rfl (by kernel_rfl) (by kernel_rfl) (by kernel_rfl) (fun _ _ _ h => h) (Or.inl ⟨by rfl, ?_⟩) hHeld ?_
        rotate_left
        · (intro w hSw; (try dsimp only at hSw); go_simp) <;> with_reducible rfl
        try simp only [Act.put, List.setIfInBounds_toArray, List.set_cons_zero, List.set_cons_succ]
        refine wpAnyH_take (i := 8) (oi := ⟨_, _, _, _, _, _⟩) (v := ?_) rfl (by kernel_rfl) (by kernel_rfl) (by kernel_rfl) (fun _ _ _ h => h) (Or.inl ⟨by rfl, ?_⟩) hHeld ?_
        rotate_left
        · (intro w hSw; (try dsimp only at hSw); go_simp) <;> with_reducible rfl
        try simp only [Act.put, List.setIfInBounds_toArray, List.set_cons_zero, List.set_cons_succ]
        refine wpAnyH_take (i := 9) (oi := ⟨_, _, _, _, _, _⟩) (v := ?_) rfl (by kernel_rfl) (by kernel_rfl) (by kernel_rfl) (fun _ _ _ h => h) (Or.inl ⟨by rfl, ?_⟩) hHeld ?_
        rotate_left
        · (intro w hSw; (try dsimp only at hSw); go_simp) <;> with_reducible rfl
        try simp only [Act.put, List.setIfInBounds_toArray, List.set_cons_zero, List.set_cons_succ]
        refine wpAnyH_take (i := 10) (oi := ⟨_, _, _, _, _, _⟩) (v := ?_) rfl (by kernel_rfl) (by kernel_rfl) (by kernel_rfl) (fun _ _ _ h => h) (Or.inl ⟨by rfl, ?_⟩) hHeld ?_
        rotate_left
        · (intro w hSw; (try dsimp only at hSw); go_simp) <;> with_reducible rfl
        try simp only [Act.put, List.setIfInBounds_toArray, List.set_cons_zero, List.set_cons_succ]
        refine wpAnyH_take (i := 11) (oi := ⟨_, _, _, _, _, _⟩) (v := ?_) rfl (by kernel_rfl) (by kernel_rfl) (by kernel_rfl) (fun _ _ _ h => h) (Or.inl ⟨by rfl, ?_⟩) hHeld ?_
        rotate_left
        · (intro w hSw; (try dsimp only at hSw); go_simp) <;> with_reducible rfl
        try simp only [Act.put, List.setIfInBounds_toArray, List.set_cons_zero, List.set_cons_succ]
        refine wpAnyH_take (i := 12) (oi := ⟨_, _, _, _, _, _⟩) (v := undef) rfl (by kernel_rfl) (by kernel_rfl) (by kernel_rfl) (fun _ _ _ h => h) (Or.inr ⟨by rfl, rfl⟩) hHeld ?_
        try simp only [Act.put, List.setIfInBounds_toArray, List.set_cons_zero, List.set_cons_succ]
        refine wpAnyH_take (i := 13) (oi := ⟨_, _, _, _, _, _⟩) (v := undef) rfl (by kernel_rfl) (by kernel_rfl) (by kernel_rfl) (fun _ _ _ h => h) (Or.inr ⟨by rfl, rfl⟩) hHeld ?_
        try simp only [Act.put, List.setIfInBounds_toArray, List.set_cons_zero, List.set_cons_succ]
        refine wpAnyH_take (i := 14) (oi := ⟨_, _, _, _, _, _⟩) (v := undef) rfl (by kernel_rfl) (by kernel_rfl) (by kernel_rfl) (fun _ _ _ h => h) (Or.inr ⟨by rfl, rfl⟩) hHeld ?_
        try simp only [Act.put, List.setIfInBounds_toArray, List.set_cons_zero, List.set_cons_succ]
        refine wpAnyH_take (i := 15) (oi := ⟨_, _, _, _, _, _⟩) (v := undef) rfl (by kernel_rfl) (by kernel_rfl) (by kernel_rfl) (fun _ _ _ h => h) (Or.inr ⟨by rfl, rfl⟩) hHeld ?_
        try simp only [Act.put, List.setIfInBounds_toArray, List.set_cons_zero, List.set_cons_succ]
        refine wpAnyH_take (i := 16) (oi := ⟨_, _, _, _, _, _⟩) (v := undef) rfl (by kernel_rfl) (by kernel_rfl) (by kernel_rfl) (fun _ _ _ h => h) (Or.inr ⟨by rfl, rfl⟩) hHeld ?_
        try simp only [Act.put, List.setIfInBounds_toArray, List.set_cons_zero, List.set_cons_succ]
        refine wpAnyH_ready (rs := [17]) (by kernel_rfl) (by simp) ?_
        refine AllReadyH.cons (o := ⟨_, _, _, _, _, _⟩) rfl (fun K hK => ?_) AllReadyH.nil
        clear hHeld
        refine if_unwanted (by rfl) ?_
        refine hK.out _ _ (by refine KEEP.out _ ?_; (first | assumption | exact Below.refl _ _ | exact (Below.refl _ _).drew)) (fun hHeld => ?_)
        clear hK K
        try simp only [Act.put, List.setIfInBounds_toArray, List.set_cons_zero, List.set_cons_succ]
        refine wpAnyH_take (i := 18) (oi := ⟨_, _, _, _, _, _⟩) (v := undef) rfl (by kernel_rfl) (by kernel_rfl) (by kernel_rfl) (fun _ _ _ h => h) (Or.inr ⟨by rfl, rfl⟩) hHeld ?_
        try simp only [Act.put, List.setIfInBounds_toArray, List.set_cons_zero, List.set_cons_succ]
        refine wpAnyH_take (i := 19) (oi := ⟨_, _, _, _, _, _⟩) (v := ?_) rfl (by kernel_rfl) (by kernel_rfl) (by kernel_rfl) (fun _ _ _ h => h) (Or.inl ⟨by rfl, ?_⟩) hHeld ?_
        rotate_left
        · (intro w hSw; (try dsimp only at hSw); go_simp) <;> with_reducible rfl
        try simp only [Act.put, List.setIfInBounds_toArray, List.set_cons_zero, List.set_cons_succ]
        refine wpAnyH_take (i := 20) (oi := ⟨_, _, _, _, _, _⟩) (v := ?_) rfl (by kernel_rfl) (by kernel_rfl) (by kernel_rfl) (fun _ _ _ h => h) (Or.inl ⟨by rfl, ?_⟩) hHeld ?_
        rotate_left
        · (intro w hSw; (try dsimp only at hSw); go_simp) <;> with_reducible rfl
        try simp only [Act.put, List.setIfInBounds_toArray, List.set_cons_zero, List.set_cons_succ]
        refine wpAnyH_take (i := 21) (oi := ⟨_, _, _, _, _, _⟩) (v := ?_) rfl (by kernel_rfl) (by kernel_rfl) (by kernel_rfl) (fun _ _ _ h => h) (Or.inl ⟨by rfl, ?_⟩) hHeld ?_
        rotate_left
        · (intro w hSw; (try dsimp only at hSw); go_simp) <;> with_reducible rfl
        try simp only [Act.put, List.setIfInBounds_toArray, List.set_cons_zero, List.set_cons_succ]
        refine wpAnyH_take (i := 22) (oi := ⟨_, _, _, _, _, _⟩) (v := ?_) rfl (by kernel_rfl) (by kernel_rfl) (by kernel_rfl) (fun _ _ _ h => h) (Or.inl ⟨by rfl, ?_⟩) hHeld ?_
        rotate_left
        · (intro w hSw; (try dsimp only at hSw); go_simp) <;> with_reducible rfl
        try simp only [Act.put, List.setIfInBounds_toArray, List.set_cons_zero, List.set_cons_succ]
        refine wpAnyH_take (i := 23) (oi := ⟨_, _, _, _, _, _⟩) (v := ?_) rfl (by kernel_rfl) (by kernel_rfl) (by kernel_rfl) (fun _ _ _ h => h) (Or.inl ⟨by rfl, ?_⟩) hHeld ?_
        rotate_left
        · (intro w hSw; (try dsimp only at hSw); go_simp) <;> with_reducible rfl
        try simp only [Act.put, List.setIfInBounds_toArray, List.set_cons_zero, List.set_cons_succ]
        refine wpAnyH_take (i := 24) (oi := ⟨_, _, _, _, _, _⟩) (v := ?_) rfl (by kernel_rfl) (by kernel_rfl) (by kernel_rfl) (fun _ _ _ h => h) (Or.inl ⟨by rfl, ?_⟩) hHeld ?_
        rotate_left
        · (intro w hSw; (try dsimp only at hSw); go_simp) <;> with_reducible rfl
        try simp only [Act.put, List.setIfInBounds_toArray, List.set_cons_zero, List.set_cons_succ]
        refine wpAnyH_take (i := 25) (oi := ⟨_, _, _, _, _, _⟩) (v := ?_) rfl (by kernel_rfl) (by kernel_rfl) (by kernel_rfl) (fun _ _ _ h => h) (Or.inl ⟨by rfl, ?_⟩) hHeld ?_
        rotate_left
        · (intro w hSw; (try dsimp only at hSw); go_simp) <;> with_reducible rfl
        try simp only [Act.put, List.setIfInBounds_toArray, List.set_cons_zero, List.set_cons_succ]
        refine wpAnyH_take (i := 26) (oi := ⟨_, _, _, _, _, _⟩) (v := ?_) rfl (by kernel_rfl) (by kernel_rfl) (by kernel_rfl) (fun _ _ _ h => h) (Or.inl ⟨by rfl, ?_⟩) hHeld ?_
        rotate_left
        · (intro w hSw; (try dsimp only at hSw); go_simp) <;> with_reducible rfl
        try simp only [Act.put, List.setIfInBounds_toArray, List.set_cons_zero, List.set_cons_succ]
        refine wpAnyH_take (i := 27) (oi := ⟨_, _, _, _, _, _⟩) (v := ?_) rfl (by kernel_rfl) (by kernel_rfl) (by kernel_rfl) (fun _ _ _ h => h) (Or.inl ⟨by rfl, ?_⟩) hHeld ?_
        rotate_left
        · (intro w hSw; (try dsimp only at hSw); go_simp) <;> with_reducible rfl
        try simp only [Act.put, List.setIfInBounds_toArray, List.set_cons_zero, List.set_cons_succ]
        refine wpAnyH_take (i := 28) (oi := ⟨_, _, _, _, _, _⟩) (v := ?_) rfl (by kernel_rfl) (by kernel_rfl) (by kernel_rfl) (fun _ _ _ h => h) (Or.inl ⟨by rfl, ?_⟩) hHeld ?_
        rotate_left
        · (intro w hSw; (try dsimp only at hSw); go_simp) <;> with_reducible rfl
        try simp only [Act.put, List.setIfInBounds_toArray, List.set_cons_zero, List.set_cons_succ]
        refine wpAnyH_take (i := 29) (oi := ⟨_, _, _, _, _, _⟩) (v := ?_) rfl (by kernel_rfl) (by kernel_rfl) (by kernel_rfl) (fun _ _ _ h => h) (Or.inl ⟨by rfl, ?_⟩) hHeld ?_
        rotate_left
        · (intro w hSw; (try dsimp only at hSw); go_simp) <;> with_reducible rfl
        try simp only [Act.put, List.setIfInBounds_toArray, List.set_cons_zero, List.set_cons_succ]
        refine wpAnyH_take (i := 30) (oi := ⟨_, _, _, _, _, _⟩) (v := ?_) rfl (by kernel_rfl) (by kernel_rfl) (by kernel_rfl) (fun _ _ _ h => h) (Or.inl ⟨by rfl, ?_⟩) hHeld ?_
        rotate_left
        · (intro w hSw; (try dsimp only at hSw); go_simp) <;> with_reducible rfl
        try simp only [Act.put, List.setIfInBounds_toArray, List.set_cons_zero, List.set_cons_succ]
        refine wpAnyH_take (i := 31) (oi := ⟨_, _, _, _, _, _⟩) (v := ?_) rfl (by kernel_rfl) (by kernel_rfl) (by kernel_rfl) (fun _ _ _ h => h) (Or.inl ⟨by rfl, ?_⟩) hHeld ?_
        rotate_left
        · (intro w hSw; (try dsimp only at hSw); go_simp) <;> with_reducible rfl
        try simp only [Act.put, List.setIfInBounds_toArray, List.set_cons_zero, List.set_cons_succ]
        refine wpAnyH_ready (rs := [32]) (by kernel_rfl) (by simp) ?_
        refine AllReadyH.cons (o := ⟨_, _, _, _, _, _⟩) rfl (fun K hK => ?_) AllReadyH.nil
        clear hHeld
        go_simp
        go_at_call 38
        refine (XV.out _ (by first | assumption | exact Below.refl _ _ | exact (Below.refl _ _).drew)).mono ?_
        rintro e w' ⟨rfl, rfl⟩
        refine hK.out _ _ (by refine KEEP.out _ ?_; (first | assumption | exact Below.refl _ _ | exact (Below.refl _ _).drew)) (fun hHeld => ?_)
        clear hK K
        try simp only [Act.put, List.setIfInBounds_toArray, List.set_cons_zero, List.set_cons_succ]
        refine wpAnyH_take (i := 33) (oi := ⟨_, _, _, _, _, _⟩) (v := ?_) rfl (by kernel_rfl) (by kernel_rfl) (by kernel_rfl) (fun _ _ _ h => h) (Or.inl ⟨by rfl, ?_⟩) hHeld ?_
        rotate_left
        · (intro w hSw; (try dsimp only at hSw); go_simp) <;> with_reducible rfl
        try simp only [Act.put, List.setIfInBounds_toArray, List.set_cons_zero, List.set_cons_succ]
        refine wpAnyH_take (i := 34) (oi := ⟨_, _, _, _, _, _⟩) (v := ?_) rfl (by kernel_rfl) (by kernel_rfl) (by kernel_rfl) (fun _ _ _ h => h) (Or.inl ⟨by rfl, ?_⟩) hHeld ?_
        rotate_left
        · (intro w hSw; (try dsimp only at hSw); go_simp) <;> with_reducible rfl
        try simp only [Act.put, List.setIfInBounds_toArray, List.set_cons_zero, List.set_cons_succ]
        refine wpAnyH_done (by kernel_rfl) ?_ _
        have HBA := hid hBa
        have HBW : Hid (Below W.heap.size W wa) := hid (HB7.out.trans (hBa.mono HB7.out.size))
        clear hBa
        by_cases hz : n = 0
        · have q4 : (n != 0) = false := by simpa using hz
          clear hz
          have HK6 := hid (HQ7.out.later HBA.out)
          have HH6 := hid (HH7.out.only0 HBA.out)
          have HT6 := hid (HN7.out.only (S' := []) (by simp) (Only.of_below HBA.out))
          have HB6 := HBW
          obtain ⟨p0, p1, p2, o0, o1, o2, e0, e1, e2⟩ := KEEP.out _ HBA.out
          have r0 := HK6.out.free 0
          have r1 := HK6.out.free 1
          have r2 := HK6.out.free 2
          go_upto_region 7 with fail
          refine wp_gen ?_
          intro wz hwz
          have hoz : Only [b6] wa wz := by rw [hwz]; (repeat' (first | (with_reducible refine Only.setCell ?_ (by simp) _) | (with_reducible refine Only.drew ?_) | (with_reducible exact Only.refl _ _)))
          have hkz : Blk wz b6 #[.int .i64 n, .slice a8 l8.length cap8, .string f] 46 := by rw [hwz]; exact ((HK6.out.set 0 _).set 1 _).set 2 _
          clear hwz
          have HFI : Hid (Rise W g b6 v2 ns (k + 1) n l5 a5 cap5 f tk (rf + 1) l8 a8 cap8 wz) := hid ⟨HH6.out.only (S' := [b6]) (by simp) (by simpa using hgb) hoz, hkz, HT6.out.only (S' := [b6]) (by simp) hoz, HC8.out.symm, HINV.out, HSUM.out.2.1, HSUM.out.2.2, by push_cast; exact HSUM.out.1, HB6.out.trans (hoz.below HB6.out.size (fun k hk => by simp at hk; omega)), HLP.out.1, HLP.out.2⟩
          clear hoz hkz
          go_wp2_with fail
          go_roundw
          case rel => exact ⟨k + 1, by omega, by go_num, hid ⟨_, _, _, _, _, _, _, _, _, _, HFI.out⟩⟩
          case measure => simp [intOf]; omega
        · have q4 : (n != 0) = true := by simpa using hz
          obtain ⟨p0, p1, p2, o0, o1, o2, e0, e1, e2⟩ := KEEP.out _ HBA.out
          have HWC := hid (HWH.out wa HBA.out hz)
          go_wp2_with fail
          refine HWC.out.mono ?_
          rintro e wb ⟨rfl, hbb⟩
          have HBB : Hid (Below w7.heap.size w7 wb) := hid (HBA.out.trans (hbb.mono HBA.out.size))
          have HB6 : Hid (Below W.heap.size W wb) := hid (HB7.out.trans (HBB.out.mono HB7.out.size))
          clear hbb HWC p0 p1 p2 o0 o1 o2 e0 e1 e2
          have HK6 := hid (HQ7.out.later HBB.out)
          have HH6 := hid (HH7.out.only0 HBB.out)
          have HT6 := hid (HN7.out.only (S' := []) (by simp) (Only.of_below HBB.out))
          obtain ⟨p0, p1, p2, o0, o1, o2, e0, e1, e2⟩ := KEEP.out _ HBB.out
          have r0 := HK6.out.free 0
          have r1 := HK6.out.free 1
          have r2 := HK6.out.free 2
          go_upto_region 7 with fail
          refine wp_gen ?_
          intro wz hwz
          have hoz : Only [b6] wb wz := by rw [hwz]; (repeat' (first | (with_reducible refine Only.setCell ?_ (by simp) _) | (with_reducible refine Only.drew ?_) | (with_reducible exact Only.refl _ _)))
          have hkz : Blk wz b6 #[.int .i64 n, .slice a8 l8.length cap8, .string f] 46 := by rw [hwz]; exact ((HK6.out.set 0 _).set 1 _).set 2 _
          clear hwz
          have HFI : Hid (Rise W g b6 v2 ns (k + 1) n l5 a5 cap5 f tk (rf + 1) l8 a8 cap8 wz) := hid ⟨HH6.out.only (S' := [b6]) (by simp) (by simpa using hgb) hoz, hkz, HT6.out.only (S' := [b6]) (by simp) hoz, HC8.out.symm, HINV.out, HSUM.out.2.1, HSUM.out.2.2, by push_cast; exact HSUM.out.1, HB6.out.trans (hoz.below HB6.out.size (fun k hk => by simp at hk; omega)), HLP.out.1, HLP.out.2⟩
          clear hoz hkz
          go_wp2_with fail
          go_roundw
          case rel => exact ⟨k + 1, by omega, by go_num, hid ⟨_, _, _, _, _, _, _, _, _, _, HFI.out⟩⟩
          case measure => simp [intOf]; omega
    · obtain rfl : k = ts.length := by omega
      have hsum := HBO.out.sum
      have hw0 : IntKind.i64.wrap (tk + rf) = (ts.length : Int) := by rw [IntKind.wrap_i64]; omega
      have HT1 := hid (taken_any g tk wr (HBO.out.hold.blk.cell 5))
      have HR1 := hid (refused_any g rf wr (HBO.out.hold.blk.cell 6))
      go_wp2_with fail
      refine HT1.out.mono ?_
      rintro e w' ⟨rfl, rfl⟩
      go_wp2_with fail
      refine HR1.out.mono ?_
      rintro e w' ⟨rfl, rfl⟩
      go_wp2_with fail
      refine (HK.out _).mono ?_
      rintro e wk ⟨rfl, hbk⟩
      have HBK := hid (HB.out.trans (hbk.mono HB.out.size))
      clear hbk
      go_wp2_with fail
      go_ret
      exact ⟨rfl, HBK.out⟩
end C17
end Go.Proofs.Ytmmmaldpalhjeaa
