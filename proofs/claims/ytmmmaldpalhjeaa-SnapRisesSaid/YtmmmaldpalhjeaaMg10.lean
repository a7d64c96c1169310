/- Walks of layer 12 (rule): Order on few rules; no condition. Walks of layer 12 (rule): the document's Order; no condition. Tables that are compiled, as plain data; what Order leaves. Walks of layer 14 (table): the document's Compile; no condition. Walks of layer 15 (chance) for layer 16; no condition. Walks of layers 12 and 14: few rules; a table that is small; no condition. -/
import Derived.Test.YtmmmaldpalhjeaaMg09
import Derived.Test.YtmmmaldpalhjeaaMg03
import Derived.Test.YtmmmaldpalhjeaaMg07
import Derived.Deep.Cut
import Derived.Deep.RegionHeld3
import Derived.Test.YtmmmaldpalhjeaaMg06
namespace Go.Proofs.Ytmmmaldpalhjeaa
open Go.RowKit Go.Peri
namespace C12
theorem order_core {l m : List Rl} (h : l.map Rl.core = m.map Rl.core) : (Srt.order Rl.rank l).map Rl.core = (Srt.order Rl.rank m).map Rl.core := by
  rw [Srt.order_map Rl.rank Rl.core Rl.rank (fun _ => rfl), Srt.order_map Rl.rank Rl.core Rl.rank (fun _ => rfl), h]
theorem ins_none (p : Option Addr) (cap : Nat) (fv : Value) (w : World) : Calls Try.prog 193 #[.slice p 0 cap, .int .i64 0, .int .i64 0, fv] w fun e w' => e = .returned (.tuple #[]) ∧ w' = w := by
  go_enter Try.func193, Try.ntmps193
  go_wp2
  refine wp_loop_rounds 1 ?_
  rw [rounds_succ]
  go_wp2
  go_end0
  exact ⟨rfl, rfl⟩
theorem ins_all (base : Nat) (v : Value) (l : List Rl) (w : World) (h : w.ownsRow base 60 10 v l.length (l.flatMap Rl.enc)) (hl : l.length ≤ 1000000) :
    Calls Try.prog 193 #[v, .int .i64 0, .int .i64 l.length, .func (.func 110) #[] #[]] w fun e w' =>
      e = .returned (.tuple #[]) ∧ w'.ownsRow base 60 10 v l.length ((Srt.order Rl.rank l).flatMap Rl.enc) ∧ Only (blocks v) w w' := by
  by_cases h0 : l.length = 0
  · have hl0 := List.length_eq_zero_iff.1 h0
    subst hl0
    obtain ⟨a, cap, rfl⟩ := owns_form h
    exact (ins_none a cap _ w).mono fun e w' ⟨h1, h2⟩ => ⟨h1, by rw [h2]; exact h, by rw [h2]; exact Only.refl _ _⟩
  · obtain ⟨g, cap, rfl, _, hg⟩ := owns_at h (by omega)
    have hH := holdsK_of_owns Rl.enc_length h
    have hc := insertion_any g 0 cap 0 l.toArray.size l.toArray w hH hg (Nat.zero_le _) (Nat.le_refl _) (by simp; omega)
    refine Calls.mono (by simpa using hc) ?_
    rintro e w' ⟨rfl, n, os, rfl⟩
    have hs : (Sort.insertionSort (ltOf cf) l.toArray 0 l.length).size = l.length := by
      have := Srt.size_insertionSort Rl.rank (ltOf cf) cf_lt l.toArray 0 l.length (Nat.zero_le _) (by simp)
      simpa using this
    have ho : (Sort.insertionSort (ltOf cf) l.toArray 0 l.length).toList = Srt.order Rl.rank l := by
      have := Srt.insertionSort_order Rl.rank (ltOf cf) cf_lt l.toArray
      simpa using this
    have := owns_sorted Rl.enc_length h _ hs n os
    rw [ho] at this
    exact ⟨rfl, this.1, this.2⟩
set_option maxRecDepth 100000 in
theorem stable_any (base : Nat) (v : Value) (l : List Rl) (w : World) (h : w.ownsRow base 60 10 v l.length (l.flatMap Rl.enc)) (hl : l.length < 20) :
    Calls Try.prog 160 #[v, .int .i64 l.length, .func (.func 110) #[] #[]] w fun e w' =>
      e = .returned (.tuple #[]) ∧ w'.ownsRow base 60 10 v l.length ((Srt.order Rl.rank l).flatMap Rl.enc) ∧ Only (blocks v) w w' := by
  have HC := hid (ins_all base v l w h (by omega))
  clear h
  generalize l.length = n at hl HC
  go_enter Try.func160, Try.ntmps160
  go_wp2_with fail
  refine wp_loop_rounds 1 ?_
  rw [rounds_succ]
  go_wp2_with fail
  refine HC.out.mono ?_
  rintro e w' ⟨rfl, h1, h2⟩
  have H1 := hid h1
  have H2 := hid h2
  clear h1 h2
  go_wp2_with fail
  refine wp_loop_rounds 1 ?_
  rw [rounds_succ]
  go_wp2_with fail
  go_end0
  exact ⟨rfl, H1.out, H2.out⟩
theorem sort_any (base : Nat) (v : Value) (l : List Rl) (w : World) (h : w.ownsRow base 60 10 v l.length (l.flatMap Rl.enc)) (hl : l.length < 20) :
    Calls Try.prog 109 #[v, .func (.func 110) #[] #[]] w fun e w' =>
      e = .returned (.tuple #[]) ∧ w'.ownsRow base 60 10 v l.length ((Srt.order Rl.rank l).flatMap Rl.enc) ∧ Only (blocks v) w w' := by
  have HC := hid (stable_any base v l w h hl)
  obtain ⟨a, cap, rfl⟩ := owns_form h
  clear h
  go_enter Try.func109, Try.ntmps109
  go_wp2_with fail
  refine HC.out.mono ?_
  rintro e w' ⟨rfl, h1, h2⟩
  have H1 := hid h1
  have H2 := hid h2
  clear h1 h2
  go_wp2_with fail
  go_end0
  exact ⟨rfl, H1.out, H2.out⟩
/-- Rules by their rank: a row of their own, the predicates in rows of their own. -/
def Ordered (W : World) (l : List Rl) (v : Value) (w' : World) : Prop :=
  ∃ l1 : List Rl, l1.map Rl.core = (Srt.order Rl.rank l).map Rl.core ∧ Below W.heap.size W w' ∧ w'.ownsRow W.heap.size 60 10 v l.length (l1.flatMap Rl.enc) ∧ ∀ x ∈ l1, x.At (fun b => W.heap.size ≤ b ∧ b < w'.heap.size ∧ b ∉ blocks v) w'
set_option maxRecDepth 100000 in
theorem order_any {p : Nat → Prop} (v : Value) (l : List Rl) (W : World) (h : RowsOf p Rl.enc 10 W v l) (hp : ∀ b, p b → b < W.heap.size) (hl : l.length < 20) (ha : ∀ x ∈ l, x.At (· < W.heap.size) W) (hps : ∀ x ∈ l, x.preds.length ≤ 1000000) :
    Calls Try.prog 52 #[v] W (Ret (Ordered W l)) := by
  have HC := hid (copied_any v l W h hp (by omega) ha hps)
  obtain ⟨a, cap, rfl⟩ := h.form
  clear h hp ha hps
  go_enter Try.func52, Try.ntmps52
  go_wp2_with fail
  refine HC.out.mono ?_
  rintro e w1 ⟨v1, rfl, l1, hc1, hb1, hown, hat⟩
  have hlen : l1.length = l.length := by
    have := congrArg List.length hc1
    simpa using this
  obtain ⟨a1, cap1, rfl⟩ := owns_form hown
  have HS := hid (sort_any W.heap.size (.slice a1 l.length cap1) l1 w1 (by rw [hlen]; exact hown) (by omega))
  have HC1 := hid hc1
  have HB1 := hid hb1
  have HAT := hid hat
  have HOW := hid hown
  have HLEN := hid hlen
  clear hown hc1 hb1 hat HC
  go_wp2_with fail
  refine HS.out.mono ?_
  rintro e w2 ⟨rfl, h1, h2⟩
  have HR : Hid (Ordered W l (.slice a1 l.length cap1) w2) := by
    refine ⟨Srt.order Rl.rank l1, order_core HC1.out, HB1.out.trans (h2.below HB1.out.size (fun k hk => (owns_bd HOW.out k hk).1)), ?_, fun x hx => ?_⟩
    · rw [HLEN.out] at h1; exact h1
    · have hx1 := (Srt.order_mem Rl.rank x l1).1 hx
      exact ((HAT.out x hx1).only h2 (fun b hb => hb.2)).imp (fun b hb => ⟨hb.1, Nat.lt_of_lt_of_le hb.2.1 h2.size, hb.2.2⟩)
  clear h1 h2
  go_wp2_with fail
  go_ret
  exact ⟨_, rfl, HR.out⟩
end C12
end Go.Proofs.Ytmmmaldpalhjeaa
namespace Go.Proofs.Ytmmmaldpalhjeaa
open Go.RowKit Go.Peri
namespace C12
theorem order_take (l : List Rl) (k : Nat) (h : k < l.length) : Srt.order Rl.rank (l.take (k + 1)) = Srt.ins Rl.rank l[k] (Srt.order Rl.rank (l.take k)) := by
  rw [List.take_succ_eq_append_getElem h, Srt.order_snoc]
/-- The rules by their rank, in a row of their own. -/
def ROrd (W : World) (l : List Rl) (v : Value) (w' : World) : Prop := Below W.heap.size W w' ∧ w'.ownsRow W.heap.size 60 10 v l.length ((Srt.order Rl.rank l).flatMap Rl.enc)
theorem cut_low {w w2 : World} {p : Nat → Prop} {a : Option Addr} {co k : Nat} {out : List Rl} (hol : out.length = k) (h : RowsOf p Rl.enc 10 w (.slice a k co) out) (j : Nat) (hj : j ≤ k) (hb : Below w.heap.size w w2) (hp : ∀ b, p b → b < w.heap.size) : Cellz p 10 w2 (.slice a j co) j ((out.take j).flatMap Rl.enc) := by
  have := ((h.takeN j hj).below hb hp).cellz Rl.enc_length
  rwa [List.length_take, hol, Nat.min_eq_left hj] at this
theorem cut_high {w w2 : World} {p : Nat → Prop} {g co k : Nat} {out : List Rl} (hol : out.length = k) (h : RowsOf p Rl.enc 10 w (.slice (some ⟨g, 0, none⟩) k co) out) (j : Nat) (hj : j ≤ k) (hb : Below w.heap.size w w2) (hp : ∀ b, p b → b < w.heap.size) : Cellz p 10 w2 (.slice (some ⟨g, j * 10, none⟩) (k - j) (co - j)) (k - j) ((out.drop j).flatMap Rl.enc) := by
  have := ((h.dropN j hj).below hb hp).cellz Rl.enc_length
  rw [List.length_drop, hol, Nat.zero_add] at this
  exact this
theorem cut_none (p : Nat → Prop) (w : World) (a : Option Addr) : Cellz p 10 w (.slice a 0 0) 0 [] := ⟨rfl, a, 0, rfl, Nat.le_refl _, Nat.zero_le _, fun _ => rfl, .inl rfl⟩
set_option maxRecDepth 100000 in
set_option maxHeartbeats 4000000 in
theorem rorder_any {p : Nat → Prop} (v : Value) (l : List Rl) (W : World) (h : RowsOf p Rl.enc 10 W v l) (hp : ∀ b, p b → b < W.heap.size) (hl : l.length ≤ 1000000) :
    Calls Try.prog 53 #[v] W (Ret (ROrd W l)) := by
  obtain ⟨a, cap, rfl, hlc, hcm, _, hcell⟩ := h
  have HC := hid hcell
  have HP := hid hp
  clear hcell hp
  go_enter Try.func53, Try.ntmps53
  go_wp2_with fail
  go_loopw [3, 4] (fun o i wr => ∃ k : Nat, k ≤ l.length ∧ i = .int .i64 k ∧ Below W.heap.size W wr ∧ wr.ownsRow W.heap.size 60 10 o k ((Srt.order Rl.rank (l.take k)).flatMap Rl.enc)) (fun _ i _ => l.length - (intOf i).toNat)
  case atStart => exact ⟨0, Nat.zero_le _, rfl, Below.refl _ _, World.ownsRow_nil _ _ _ _⟩
  case round =>
    obtain ⟨k, hk, rfl, hb, hown⟩ := hrel
    have HB := hid hb
    have hws := HB.out.size
    obtain ⟨wo, rfl⟩ : ∃ wo : World, wo = wr := ⟨_, rfl⟩
    by_cases hlt : k < l.length
    · obtain ⟨b, off, rfl, hpb, hc⟩ := HC.out.resolve_left (by intro e; rw [e] at hlt; simp at hlt)
      have hbl := HP.out b hpb
      have HCW : Hid (∀ w', Below W.heap.size W w' → ∀ j u, l[k].enc[j]? = some u → w'.cell? ⟨b, off + k * 10 + j, none⟩ = some u) := hid (fun w' hw' j u hu => (hw'.cell (p := ⟨b, off + k * 10 + j, none⟩) hbl).trans (hc k hlt j u hu))
      have HT := hid (order_take l k hlt)
      have hol : (Srt.order Rl.rank (l.take k)).length = k := by rw [Srt.order_length, List.length_take]; omega
      have hde := Srt.order_desc Rl.rank (l.take k)
      have hbo : b < wo.heap.size := by omega
      generalize l[k] = x at HCW HT
      generalize Srt.order Rl.rank (l.take k) = out at hown HT hol hde
      obtain ⟨ao, co, rfl⟩ := owns_form hown
      have hrow : RowsOf (fun b => W.heap.size ≤ b ∧ b < wo.heap.size) Rl.enc 10 wo (.slice ao k co) out := RowsOf.of_owns Rl.enc_length (by rw [hol]; exact hown)
      have HROW := hid hrow
      have HDE := hid hde
      have HOL := hid hol
      have hko : k ≤ co := by
        obtain ⟨a', cap', e, h2, _⟩ := hrow
        cases e
        rw [← hol]; exact h2
      have hform : (ao = none ∧ co = 0 ∧ k = 0) ∨ ∃ g, ao = some ⟨g, 0, none⟩ ∧ g < wo.heap.size := by
        rcases hown.2 with ⟨e, h0⟩ | ⟨g, cap, cur, hv, _, hg, _⟩
        · cases e; exact .inl ⟨rfl, rfl, h0⟩
        · cases hv; exact .inr ⟨g, rfl, (Array.getElem?_eq_some_iff.1 hg).1⟩
      clear hc hb hown hrow hde hol
      go_wp2_with fail
      go_loopw [5] (fun i w' => ∃ j : Nat, j ≤ k ∧ i = .int .i64 j ∧ Below wo.heap.size wo w' ∧ Hid (∀ y ∈ out.take j, x.rank ≤ y.rank)) (fun i _ => k - (intOf i).toNat)
      case atStart => exact ⟨0, Nat.zero_le _, rfl, Below.refl _ _, hid (fun y hy => by simp at hy)⟩
      case round =>
        obtain ⟨j, hj, rfl, hb, hge⟩ := hrel
        have HB1 := hid hb
        have hws1 := hb.size
        clear hb
        obtain ⟨d0, -⟩ := Rl.cells (HCW.out wr (HB.out.trans (HB1.out.mono HB.out.size)))
        have hbr : b < wr.heap.size := by omega
        have i1 : (0 : Int) ≤ (k : Int) := by omega
        have i2 : (k : Int) < (l.length : Int) := by omega
        by_cases hjk : j < k
        · obtain ⟨g, rfl, hg⟩ := hform.resolve_left (by omega)
          have hjo : j < out.length := by rw [HOL.out]; exact hjk
          obtain ⟨f0, -⟩ := Rl.cells (y := out[j]) (w := wr) (b := g) (o := j * 10) (fun i u hu => by
            obtain ⟨a', cap', e, _, _, _, h5⟩ := HROW.out
            cases e
            rcases h5 with h5 | ⟨b', off', h1, _, h3⟩
            · rw [h5] at hjo; simp at hjo
            · cases h1
              have := h3 j hjo i u hu
              rw [Nat.zero_add] at this
              exact (HB1.out.cell (p := ⟨g, j * 10 + i, none⟩) hg).trans this)
          have hgr : g < wr.heap.size := by omega
          have i3 : (0 : Int) ≤ (j : Int) := by omega
          have i4 : (j : Int) < (k : Int) := by omega
          have i5 : (j : Int) ≤ (k : Int) := by omega
          have i6 : (k : Int) ≤ (co : Int) := by omega
          have i7 : (j : Int) ≤ (co : Int) := by omega
          have HSN : Hid (x.rank ≤ out[j].rank → ∀ y ∈ out.take (j + 1), x.rank ≤ y.rank) := hid (fun h y hy => by
            rw [List.take_succ_eq_append_getElem hjo] at hy
            rcases List.mem_append.1 hy with hy | hy
            · exact hge.out y hy
            · simp at hy; rw [hy]; exact h)
          have HSL : Hid (out[j].rank < x.rank → Srt.ins Rl.rank x out = out.take j ++ x :: out.drop j) := hid (fun h => Srt.ins_at Rl.rank x out j (by omega) (Srt.desc_drop Rl.rank HDE.out hjo h) hge.out)
          generalize out[j].rank = rj at f0 HSN HSL
          by_cases hr : x.rank ≤ rj
          · have HN := hid (HSN.out hr)
            clear HSN HSL
            go_wp2_with fail
            refine wp_region_bw (by kernel_rfl) (by kernel_rfl) ?_
            repeat (go_big_quiet_step (fail))
            refine wpQuiet_nil ?_
            rintro w2 ⟨⟨_, hb2⟩, rfl⟩
            have HB2 : Hid (Below wo.heap.size wo w2) := HB1.out.trans (hb2.mono HB1.out.size)
            clear hb2
            go_wp2_with fail
            go_roundw
            case rel => exact ⟨j + 1, by omega, by go_num, HB2.out, HN⟩
            case measure => simp [intOf]; omega
          · have HIN := hid (HSL.out (by omega))
            have k5 : ¬ co = j := by omega
            clear HSN HSL
            go_wp2_with fail
            refine wp_region_bw (by kernel_rfl) (by kernel_rfl) ?_
            repeat (go_big_quiet_step (fail))
            refine wpQuiet_nil ?_
            rintro w2 ⟨⟨_, hb2⟩, rfl⟩
            have HB2 : Hid (Below wo.heap.size wo w2) := HB1.out.trans (hb2.mono HB1.out.size)
            clear hb2
            have hs2 := HB2.out.size
            have HWW : Hid (Below W.heap.size W w2) := HB.out.trans (HB2.out.mono HB.out.size)
            have HTK : Hid (Cellz (fun b => W.heap.size ≤ b ∧ b < wo.heap.size) 10 w2 (.slice (some ⟨g, 0, none⟩) j co) j ((out.take j).flatMap Rl.enc)) := hid (cut_low HOL.out HROW.out j (by omega) HB2.out (fun _ h => h.2))
            have HDR : Hid (∀ w4, Below w2.heap.size w2 w4 → Cellz (fun b => W.heap.size ≤ b ∧ b < wo.heap.size) 10 w4 (.slice (some ⟨g, j * 10, none⟩) (k - j) (co - j)) (k - j) ((out.drop j).flatMap Rl.enc)) := hid (fun w4 hw4 => cut_high HOL.out HROW.out j (by omega) (HB2.out.trans (hw4.mono (by omega))) (fun _ h => h.2))
            clear hbr d0
            go_wp2_with (at_builtin; refine wpList_pushCells elemR rfl _ _ rfl w2.heap.size _ 0 [] rfl (World.ownsRow_nil _ _ _ _) rfl HTK.out (Rl.one _) ?_ ?_ ?_ ?_)
            · unfold maxLen; omega
            · omega
            · exact Nat.le_refl _
            intro v3 w3 hown3 hb3
            have HW3 : Hid (Below W.heap.size W w3) := HWW.out.trans (hb3.mono (by omega))
            have HB3 := hid hb3
            have hs3 := hb3.size
            obtain ⟨e0, e1, e2, e3, e4, e5, e6, e7, e8, e9⟩ := Rl.cells (HCW.out w3 HW3.out)
            skip
            have HO3 := hid hown3
            clear hown3 hb3 HTK
            go_wp2_with (at_builtin; refine wpList_push elemR rfl _ _ rfl w2.heap.size _ _ _ [.int .i64 x.rank, .slice x.pa x.preds.length x.pcap, .string x.target, .int .i64 x.ap, .int .i64 x.as_, .int .i64 x.dp, .int .i64 x.dt, .int .i64 x.mp, .string x.mirror, .int .i64 x.sample] rfl HO3.out rfl rfl rfl (by simp [Value.oneCell']) ?_ ?_ ?_ ?_)
            · unfold maxLen; omega
            · omega
            · omega
            intro v4 w4 hown4 hb4
            have HB4 : Hid (Below w2.heap.size w2 w4) := HB3.out.trans hb4
            have hs4 := hb4.size
            have HO4 := hid hown4
            clear hown4 hb4 HO3 e0 e1 e2 e3 e4 e5 e6 e7 e8 e9
            go_wp2_with (at_builtin; refine wpList_pushCells elemR rfl _ _ rfl w2.heap.size _ _ _ rfl HO4.out rfl (HDR.out _ HB4.out) (Rl.one _) ?_ ?_ ?_ ?_)
            · unfold maxLen; omega
            · omega
            · omega
            intro v5 w5 hown5 hb5
            have HO5 : Hid (w5.ownsRow W.heap.size 60 10 v5 (k + 1) ((Srt.order Rl.rank (l.take (k + 1))).flatMap Rl.enc)) := by
              have h1 := owns_le hown5 (show W.heap.size ≤ w2.heap.size by omega)
              rw [HT.out, HIN.out]
              have h1 := owns_num (m := k + 1) (by omega) h1
              show w5.ownsRow _ _ _ _ _ _
              simpa [List.flatMap_append, List.append_assoc, Rl.enc] using h1
            have HB5 : Hid (Below W.heap.size W w5) := HWW.out.trans ((HB4.out.trans hb5).mono (by omega))
            clear hown5 hb5 HO4
            go_wp2_with fail
            go_roundw
            case rel => exact ⟨k + 1, by omega, by go_num, HB5.out, HO5.out⟩
            case measure => simp [intOf]; omega
        · obtain rfl : j = k := by omega
          have HIN : Hid (Srt.ins Rl.rank x out = out.take j ++ x :: out.drop j) := hid (Srt.ins_at Rl.rank x out j (by rw [HOL.out]; exact Nat.le_refl _) (fun y hy => by rw [List.drop_eq_nil_of_le (by rw [HOL.out]; exact Nat.le_refl _)] at hy; simp at hy) hge.out)
          have HDE0 : Hid (out.drop j = []) := hid (List.drop_eq_nil_of_le (by rw [HOL.out]; exact Nat.le_refl _))
          rcases hform with ⟨rfl, rfl, rfl⟩ | ⟨g, rfl, hg⟩
          · go_wp2_with fail
            refine wp_region_bw (by kernel_rfl) (by kernel_rfl) ?_
            repeat (go_big_quiet_step (fail))
            refine wpQuiet_nil ?_
            rintro w2 ⟨⟨_, hb2⟩, rfl⟩
            have HB2 : Hid (Below wo.heap.size wo w2) := HB1.out.trans (hb2.mono HB1.out.size)
            clear hb2
            have HTE : Hid (out.take 0 = []) := hid rfl
            have hs2 := HB2.out.size
            have HWW : Hid (Below W.heap.size W w2) := HB.out.trans (HB2.out.mono HB.out.size)
            have HTK : Hid (Cellz (fun b => W.heap.size ≤ b ∧ b < wo.heap.size) 10 w2 (.slice none 0 0) 0 ((out.take 0).flatMap Rl.enc)) := hid (cut_none _ _ _)
            have HDR : Hid (∀ w4, Below w2.heap.size w2 w4 → Cellz (fun b => W.heap.size ≤ b ∧ b < wo.heap.size) 10 w4 (.slice none 0 0) (0) ((out.drop 0).flatMap Rl.enc)) := hid (fun w4 hw4 => by rw [HDE0.out]; exact cut_none _ _ _)
            clear hbr d0
            go_wp2_with (at_builtin; refine wpList_pushCells elemR rfl _ _ rfl w2.heap.size _ 0 [] rfl (World.ownsRow_nil _ _ _ _) rfl HTK.out (Rl.one _) ?_ ?_ ?_ ?_)
            · unfold maxLen; omega
            · omega
            · exact Nat.le_refl _
            intro v3 w3 hown3 hb3
            have HW3 : Hid (Below W.heap.size W w3) := HWW.out.trans (hb3.mono (by omega))
            have HB3 := hid hb3
            have hs3 := hb3.size
            obtain ⟨e0, e1, e2, e3, e4, e5, e6, e7, e8, e9⟩ := Rl.cells (HCW.out w3 HW3.out)
            simp only [Nat.zero_mul, Nat.add_zero] at e0 e1 e2 e3 e4 e5 e6 e7 e8 e9
            have HO3 := hid hown3
            clear hown3 hb3 HTK
            go_wp2_with (at_builtin; refine wpList_push elemR rfl _ _ rfl w2.heap.size _ _ _ [.int .i64 x.rank, .slice x.pa x.preds.length x.pcap, .string x.target, .int .i64 x.ap, .int .i64 x.as_, .int .i64 x.dp, .int .i64 x.dt, .int .i64 x.mp, .string x.mirror, .int .i64 x.sample] rfl HO3.out rfl rfl rfl (by simp [Value.oneCell']) ?_ ?_ ?_ ?_)
            · unfold maxLen; omega
            · omega
            · omega
            intro v4 w4 hown4 hb4
            have HB4 : Hid (Below w2.heap.size w2 w4) := HB3.out.trans hb4
            have hs4 := hb4.size
            have HO4 := hid hown4
            clear hown4 hb4 HO3 e0 e1 e2 e3 e4 e5 e6 e7 e8 e9
            go_wp2_with (at_builtin; refine wpList_pushCells elemR rfl _ _ rfl w2.heap.size _ _ _ rfl HO4.out rfl (HDR.out _ HB4.out) (Rl.one _) ?_ ?_ ?_ ?_)
            · unfold maxLen; omega
            · omega
            · omega
            intro v5 w5 hown5 hb5
            have HO5 : Hid (w5.ownsRow W.heap.size 60 10 v5 (0 + 1) ((Srt.order Rl.rank (l.take (0 + 1))).flatMap Rl.enc)) := by
              have h1 := owns_le hown5 (show W.heap.size ≤ w2.heap.size by omega)
              rw [HT.out, HIN.out]
              have h1 := owns_num (m := 0 + 1) (by omega) h1
              show w5.ownsRow _ _ _ _ _ _
              simpa [List.flatMap_append, List.append_assoc, Rl.enc] using h1
            have HB5 : Hid (Below W.heap.size W w5) := HWW.out.trans ((HB4.out.trans hb5).mono (by omega))
            clear hown5 hb5 HO4
            go_wp2_with fail
            go_roundw
            case rel => exact ⟨0 + 1, by omega, by go_num, HB5.out, HO5.out⟩
            case measure => simp [intOf]; omega
          · have i3 : (0 : Int) ≤ (j : Int) := by omega
            have i6 : (j : Int) ≤ (co : Int) := by omega
            by_cases hc : co = j
            · subst hc
              go_wp2_with fail
              refine wp_region_bw (by kernel_rfl) (by kernel_rfl) ?_
              repeat (go_big_quiet_step (fail))
              refine wpQuiet_nil ?_
              rintro w2 ⟨⟨_, hb2⟩, rfl⟩
              have HB2 : Hid (Below wo.heap.size wo w2) := HB1.out.trans (hb2.mono HB1.out.size)
              clear hb2
              have hs2 := HB2.out.size
              have HWW : Hid (Below W.heap.size W w2) := HB.out.trans (HB2.out.mono HB.out.size)
              have HTK : Hid (Cellz (fun b => W.heap.size ≤ b ∧ b < wo.heap.size) 10 w2 (.slice (some ⟨g, 0, none⟩) co co) co ((out.take co).flatMap Rl.enc)) := hid (cut_low HOL.out HROW.out co (by omega) HB2.out (fun _ h => h.2))
              have HDR : Hid (∀ w4, Below w2.heap.size w2 w4 → Cellz (fun b => W.heap.size ≤ b ∧ b < wo.heap.size) 10 w4 (.slice (some ⟨g, 0, none⟩) 0 0) (0) ((out.drop co).flatMap Rl.enc)) := hid (fun w4 hw4 => by rw [HDE0.out]; exact cut_none _ _ _)
              clear hbr d0
              go_wp2_with (at_builtin; refine wpList_pushCells elemR rfl _ _ rfl w2.heap.size _ 0 [] rfl (World.ownsRow_nil _ _ _ _) rfl HTK.out (Rl.one _) ?_ ?_ ?_ ?_)
              · unfold maxLen; omega
              · omega
              · exact Nat.le_refl _
              intro v3 w3 hown3 hb3
              have HW3 : Hid (Below W.heap.size W w3) := HWW.out.trans (hb3.mono (by omega))
              have HB3 := hid hb3
              have hs3 := hb3.size
              obtain ⟨e0, e1, e2, e3, e4, e5, e6, e7, e8, e9⟩ := Rl.cells (HCW.out w3 HW3.out)
              skip
              have HO3 := hid hown3
              clear hown3 hb3 HTK
              go_wp2_with (at_builtin; refine wpList_push elemR rfl _ _ rfl w2.heap.size _ _ _ [.int .i64 x.rank, .slice x.pa x.preds.length x.pcap, .string x.target, .int .i64 x.ap, .int .i64 x.as_, .int .i64 x.dp, .int .i64 x.dt, .int .i64 x.mp, .string x.mirror, .int .i64 x.sample] rfl HO3.out rfl rfl rfl (by simp [Value.oneCell']) ?_ ?_ ?_ ?_)
              · unfold maxLen; omega
              · omega
              · omega
              intro v4 w4 hown4 hb4
              have HB4 : Hid (Below w2.heap.size w2 w4) := HB3.out.trans hb4
              have hs4 := hb4.size
              have HO4 := hid hown4
              clear hown4 hb4 HO3 e0 e1 e2 e3 e4 e5 e6 e7 e8 e9
              go_wp2_with (at_builtin; refine wpList_pushCells elemR rfl _ _ rfl w2.heap.size _ _ _ rfl HO4.out rfl (HDR.out _ HB4.out) (Rl.one _) ?_ ?_ ?_ ?_)
              · unfold maxLen; omega
              · omega
              · omega
              intro v5 w5 hown5 hb5
              have HO5 : Hid (w5.ownsRow W.heap.size 60 10 v5 (co + 1) ((Srt.order Rl.rank (l.take (co + 1))).flatMap Rl.enc)) := by
                have h1 := owns_le hown5 (show W.heap.size ≤ w2.heap.size by omega)
                rw [HT.out, HIN.out]
                have h1 := owns_num (m := co + 1) (by omega) h1
                show w5.ownsRow _ _ _ _ _ _
                simpa [List.flatMap_append, List.append_assoc, Rl.enc] using h1
              have HB5 : Hid (Below W.heap.size W w5) := HWW.out.trans ((HB4.out.trans hb5).mono (by omega))
              clear hown5 hb5 HO4
              go_wp2_with fail
              go_roundw
              case rel => exact ⟨co + 1, by omega, by go_num, HB5.out, HO5.out⟩
              case measure => simp [intOf]; omega
            · go_wp2_with fail
              refine wp_region_bw (by kernel_rfl) (by kernel_rfl) ?_
              repeat (go_big_quiet_step (fail))
              refine wpQuiet_nil ?_
              rintro w2 ⟨⟨_, hb2⟩, rfl⟩
              have HB2 : Hid (Below wo.heap.size wo w2) := HB1.out.trans (hb2.mono HB1.out.size)
              clear hb2
              have hs2 := HB2.out.size
              have HWW : Hid (Below W.heap.size W w2) := HB.out.trans (HB2.out.mono HB.out.size)
              have HTK : Hid (Cellz (fun b => W.heap.size ≤ b ∧ b < wo.heap.size) 10 w2 (.slice (some ⟨g, 0, none⟩) j co) j ((out.take j).flatMap Rl.enc)) := hid (cut_low HOL.out HROW.out j (by omega) HB2.out (fun _ h => h.2))
              have HDR : Hid (∀ w4, Below w2.heap.size w2 w4 → Cellz (fun b => W.heap.size ≤ b ∧ b < wo.heap.size) 10 w4 (.slice (some ⟨g, j * 10, none⟩) 0 (co - j)) (0) ((out.drop j).flatMap Rl.enc)) := hid (fun w4 hw4 => by
                have := cut_high HOL.out HROW.out j (by omega) (HB2.out.trans (hw4.mono (by omega))) (fun _ h => h.2)
                rw [Nat.sub_self] at this
                exact this)
              clear hbr d0
              go_wp2_with (at_builtin; refine wpList_pushCells elemR rfl _ _ rfl w2.heap.size _ 0 [] rfl (World.ownsRow_nil _ _ _ _) rfl HTK.out (Rl.one _) ?_ ?_ ?_ ?_)
              · unfold maxLen; omega
              · omega
              · exact Nat.le_refl _
              intro v3 w3 hown3 hb3
              have HW3 : Hid (Below W.heap.size W w3) := HWW.out.trans (hb3.mono (by omega))
              have HB3 := hid hb3
              have hs3 := hb3.size
              obtain ⟨e0, e1, e2, e3, e4, e5, e6, e7, e8, e9⟩ := Rl.cells (HCW.out w3 HW3.out)
              skip
              have HO3 := hid hown3
              clear hown3 hb3 HTK
              go_wp2_with (at_builtin; refine wpList_push elemR rfl _ _ rfl w2.heap.size _ _ _ [.int .i64 x.rank, .slice x.pa x.preds.length x.pcap, .string x.target, .int .i64 x.ap, .int .i64 x.as_, .int .i64 x.dp, .int .i64 x.dt, .int .i64 x.mp, .string x.mirror, .int .i64 x.sample] rfl HO3.out rfl rfl rfl (by simp [Value.oneCell']) ?_ ?_ ?_ ?_)
              · unfold maxLen; omega
              · omega
              · omega
              intro v4 w4 hown4 hb4
              have HB4 : Hid (Below w2.heap.size w2 w4) := HB3.out.trans hb4
              have hs4 := hb4.size
              have HO4 := hid hown4
              clear hown4 hb4 HO3 e0 e1 e2 e3 e4 e5 e6 e7 e8 e9
              go_wp2_with (at_builtin; refine wpList_pushCells elemR rfl _ _ rfl w2.heap.size _ _ _ rfl HO4.out rfl (HDR.out _ HB4.out) (Rl.one _) ?_ ?_ ?_ ?_)
              · unfold maxLen; omega
              · omega
              · omega
              intro v5 w5 hown5 hb5
              have HO5 : Hid (w5.ownsRow W.heap.size 60 10 v5 (j + 1) ((Srt.order Rl.rank (l.take (j + 1))).flatMap Rl.enc)) := by
                have h1 := owns_le hown5 (show W.heap.size ≤ w2.heap.size by omega)
                rw [HT.out, HIN.out]
                have h1 := owns_num (m := j + 1) (by omega) h1
                show w5.ownsRow _ _ _ _ _ _
                simpa [List.flatMap_append, List.append_assoc, Rl.enc] using h1
              have HB5 : Hid (Below W.heap.size W w5) := HWW.out.trans ((HB4.out.trans hb5).mono (by omega))
              clear hown5 hb5 HO4
              go_wp2_with fail
              go_roundw
              case rel => exact ⟨j + 1, by omega, by go_num, HB5.out, HO5.out⟩
              case measure => simp [intOf]; omega
    · obtain rfl : k = l.length := by omega
      rw [List.take_length] at hown
      obtain ⟨ao, co, rfl⟩ := owns_form hown
      have HR : Hid (ROrd W l (.slice ao l.length co) wo) := ⟨HB.out, hown⟩
      clear hown hb
      go_wp2_with fail
      go_ret
      exact ⟨_, rfl, HR.out⟩
end C12
end Go.Proofs.Ytmmmaldpalhjeaa
namespace Go.Proofs.Ytmmmaldpalhjeaa
open Go.RowKit Go.Peri
namespace C14
open C12 (wp_gen)
def compR (n : Int) (f : ByteArray) (l : List Rl) (ns : List ByteArray) : Int := if verR n = false then 12 else cfgR f l ns
theorem cfg_len {f : ByteArray} {l : List Rl} {ns : List ByteArray} (h : cfgR f l ns = 0) : l.length ≤ 16 := by
  unfold cfgR at h
  split at h
  · cases h
  · split at h
    · cases h
    · omega
/-- A table by its version, rules and format, and an error. -/
def CompQ (n : Int) (l : List Rl) (f : ByteArray) (c : Int) (W : World) (v : Value) (w' : World) : Prop :=
  ∃ (l1 : List Rl) (a : Option Addr) (cap : Nat), v = .tuple #[.agg #[.int .i64 (if c = 0 then n else 0), .slice a l1.length cap, .string (if c = 0 then f else ByteArray.empty)], .int .i64 c] ∧ Below W.heap.size W w' ∧ TabV w' w'.heap.size l1 a cap (if c = 0 then f else ByteArray.empty) ∧ l1.map Rl.core = if c = 0 then (Srt.order Rl.rank l).map Rl.core else []
theorem compQ_bad {n : Int} {l : List Rl} {f : ByteArray} {c : Int} {W w' : World} (hc : c ≠ 0) (hb : Below W.heap.size W w') : CompQ n l f c W (.tuple #[.agg #[.int .i64 0, .slice none 0 0, .string ByteArray.empty], .int .i64 c]) w' :=
  ⟨[], none, 0, by rw [if_neg hc, if_neg hc]; rfl, hb, ⟨RowsOf.nil _ _ _ _, by simp, by simp, by rw [if_neg hc]; decide⟩, by rw [if_neg hc]; rfl⟩
theorem compQ_good {n : Int} {l l1 : List Rl} {f : ByteArray} {a : Option Addr} {cap : Nat} {W w' : World} (hb : Below W.heap.size W w') (ht : TabV w' w'.heap.size l1 a cap f) (hl : l1.map Rl.core = (Srt.order Rl.rank l).map Rl.core) : CompQ n l f 0 W (.tuple #[.agg #[.int .i64 n, .slice a l1.length cap, .string f], .int .i64 0]) w' :=
  ⟨l1, a, cap, rfl, hb, ht, hl⟩
/-- What Order gives, kept where memory turns elsewhere. -/
theorem tab_of_ordered {W w2 wf w3 : World} {l : List Rl} {v : Value} {f : ByteArray} (hw : ∀ r ∈ l, r.Wf W W.heap.size) (hl : l.length ≤ 1000000) (hf : f.size ≤ 140737488351232) (h : C12.Ordered w2 l v w3) {g : Nat} (hg : g < w2.heap.size) (ho : Only [g] w3 wf) :
    ∃ l1 a cap, v = .slice a l1.length cap ∧ l1.map Rl.core = (Srt.order Rl.rank l).map Rl.core ∧ TabV wf wf.heap.size l1 a cap f := by
  obtain ⟨l1, hc, hb, hown, hax⟩ := h
  have hlen : l1.length = l.length := by
    have := congrArg List.length hc
    rwa [List.length_map, List.length_map, Srt.order_length] at this
  rw [← hlen] at hown
  have hr : RowsOf (fun b => w2.heap.size ≤ b ∧ b < w3.heap.size) Rl.enc 10 w3 v l1 := RowsOf.of_owns Rl.enc_length hown
  obtain ⟨a, cap, rfl⟩ := hr.form
  refine ⟨l1, a, cap, rfl, hc, ⟨(hr.only ho (fun b hb => ⟨hb.2, by simp; omega⟩)).imp (fun b hb => Nat.lt_of_lt_of_le hb.2 ho.size), by rw [hlen]; omega, fun x hx => ?_, hf⟩⟩
  have hm : x.core ∈ (Srt.order Rl.rank l).map Rl.core := by rw [← hc]; exact List.mem_map_of_mem hx
  obtain ⟨y, hy, hyx⟩ := List.mem_map.1 hm
  have hyl := (Srt.order_mem Rl.rank y l).1 hy
  exact (hw y hyl).of_core hyx.symm (((hax x hx).only ho (fun b hb => ⟨hb.2.1, by simp; omega⟩)).imp (fun b hb => Nat.lt_of_lt_of_le hb.2.1 ho.size))
theorem ord_drew {w2 w' w3 : World} {l : List Rl} {v : Value} (h : w' = w2 ∨ w' = w2.drew) (hq : C12.Ordered w' l v w3) : C12.Ordered w2 l v w3 := by
  rcases h with rfl | rfl
  · exact hq
  · obtain ⟨l1, h1, h2, h3⟩ := hq
    exact ⟨l1, h1, (Below.refl _ _).drew.trans h2, h3⟩
theorem ord_below {w2 w3 : World} {l : List Rl} {v : Value} (hq : C12.Ordered w2 l v w3) : Below w2.heap.size w2 w3 := by
  obtain ⟨l1, h1, h2, h3⟩ := hq
  exact h2
theorem rord_drew {w2 w' w3 : World} {l : List Rl} {v : Value} (h : w' = w2 ∨ w' = w2.drew) (hq : C12.ROrd w' l v w3) : C12.ROrd w2 l v w3 := by
  rcases h with rfl | rfl
  · exact hq
  · exact ⟨(Below.refl _ _).drew.trans hq.1, hq.2⟩
theorem rord_below {w2 w3 : World} {l : List Rl} {v : Value} (hq : C12.ROrd w2 l v w3) : Below w2.heap.size w2 w3 := hq.1
theorem ord_form {w2 w3 : World} {l : List Rl} {v : Value} (hq : C12.Ordered w2 l v w3) : ∃ a cap, v = .slice a l.length cap := by
  obtain ⟨l1, h1, h2, h3, _⟩ := hq
  exact owns_form h3
theorem rord_form {w2 w3 : World} {l : List Rl} {v : Value} (hq : C12.ROrd w2 l v w3) : ∃ a cap, v = .slice a l.length cap := owns_form hq.2
theorem tab_of_rord {W w2 wf w3 : World} {l : List Rl} {v : Value} {f : ByteArray} (hw : ∀ r ∈ l, r.Wf W W.heap.size) (hl : l.length ≤ 1000000) (hf : f.size ≤ 140737488351232) (hb : Below W.heap.size W w2) (h : C12.ROrd w2 l v w3) {g : Nat} (hg : g < w2.heap.size) (hgW : W.heap.size ≤ g) (ho : Only [g] w3 wf) :
    ∃ l1 a cap, v = .slice a l1.length cap ∧ l1.map Rl.core = (Srt.order Rl.rank l).map Rl.core ∧ TabV wf wf.heap.size l1 a cap f := by
  obtain ⟨hb2, hown⟩ := h
  have hlen : (Srt.order Rl.rank l).length = l.length := Srt.order_length _ _
  rw [← hlen] at hown
  have hr : RowsOf (fun b => w2.heap.size ≤ b ∧ b < w3.heap.size) Rl.enc 10 w3 v (Srt.order Rl.rank l) := RowsOf.of_owns Rl.enc_length hown
  obtain ⟨a, cap, rfl⟩ := hr.form
  have hb3 : Below W.heap.size W wf := hb.trans ((hb2.mono hb.size).trans (ho.below (Nat.le_trans hb.size hb2.size) (fun k hk => by simp at hk; omega)))
  refine ⟨_, a, cap, rfl, rfl, ⟨(hr.only ho (fun b hb => ⟨hb.2, by simp; omega⟩)).imp (fun b hb => Nat.lt_of_lt_of_le hb.2 ho.size), by rw [hlen]; omega, fun x hx => ?_, hf⟩⟩
  have hyl := (Srt.order_mem Rl.rank x l).1 hx
  have := (hw x hyl).below hb3
  exact this.of_core rfl (this.at.imp (fun b hb => Nat.lt_of_lt_of_le hb hb3.size))
theorem comp_fin {W w2 wf w3 : World} {n : Int} {l : List Rl} {a : Option Addr} {cap : Nat} {f : ByteArray} (hw : ∀ r ∈ l, r.Wf W W.heap.size) (hl : l.length ≤ 16) (hf : f.size ≤ 140737488351232) (hb : Below W.heap.size W w2) (hg : W.heap.size + 1 < w2.heap.size) (h : C12.Ordered w2 l (.slice a l.length cap) w3) (ho : Only [W.heap.size + 1] w3 wf) :
    CompQ n l f 0 W (.tuple #[.agg #[.int .i64 n, .slice a l.length cap, .string f], .int .i64 0]) wf := by
  obtain ⟨l1, a1, cap1, e, hc, ht⟩ := tab_of_ordered hw (by omega) hf h hg ho
  rw [e]
  have h2 := ord_below h
  exact compQ_good (hb.trans ((h2.mono hb.size).trans (ho.below (Nat.le_trans hb.size h2.size) (fun k hk => by simp at hk; omega)))) ht hc
theorem rcomp_fin {W w2 wf w3 : World} {n : Int} {l : List Rl} {a : Option Addr} {cap : Nat} {f : ByteArray} (hw : ∀ r ∈ l, r.Wf W W.heap.size) (hl : l.length ≤ 16) (hf : f.size ≤ 140737488351232) (hb : Below W.heap.size W w2) (hg : W.heap.size + 1 < w2.heap.size) (h : C12.ROrd w2 l (.slice a l.length cap) w3) (ho : Only [W.heap.size + 1] w3 wf) :
    CompQ n l f 0 W (.tuple #[.agg #[.int .i64 n, .slice a l.length cap, .string f], .int .i64 0]) wf := by
  obtain ⟨l1, a1, cap1, e, hc, ht⟩ := tab_of_rord hw (by omega) hf hb h hg (by omega) ho
  rw [e]
  have h2 := rord_below h
  exact compQ_good (hb.trans ((h2.mono hb.size).trans (ho.below (Nat.le_trans hb.size h2.size) (fun k hk => by simp at hk; omega)))) ht hc
end C14
end Go.Proofs.Ytmmmaldpalhjeaa
namespace Go.Proofs.Ytmmmaldpalhjeaa
open Go.RowKit Go.Peri
namespace C14
open C12 (wp_gen)
set_option maxRecDepth 100000 in
set_option maxHeartbeats 4000000 in
theorem rcompile_any (n : Int) (l : List Rl) (a : Option Addr) (cap : Nat) (f : ByteArray) (ns : List ByteArray) (vn : Value) (c : Int) (W : World) (hr : RowsOf (· < W.heap.size) Rl.enc 10 W (.slice a l.length cap) l) (hw : ∀ r ∈ l, r.Wf W W.heap.size) (hpl : ∀ r ∈ l, r.preds.length ≤ 1000000)
    (hn : RowsOf (· < W.heap.size) sEnc 1 W vn ns) (hl : ns.length ≤ 1000000000000) (hf : f.size ≤ 140737488351232) (hc : compR n f l ns = c) :
    Calls Try.prog 72 #[.agg #[.slice a l.length cap, .string f], .int .i64 n, vn] W (Ret (CompQ n l f c W)) := by
  unfold compR verR at hc
  have HC := hid hc
  obtain ⟨d, hd⟩ : ∃ d, cfgR f l ns = d := ⟨_, rfl⟩
  have HCK := hid (fun w' (hb : Below W.heap.size W w') => rcheck_any l a cap f ns vn d w' ((hr.below hb (fun _ h => h)).imp (fun b hb2 => Nat.lt_of_lt_of_le hb2 hb.size)) (fun r hr' => ⟨((hw r hr').below hb).rows.imp (fun b hb2 => Nat.lt_of_lt_of_le hb2 hb.size), (hw r hr').len, (hw r hr').preds, (hw r hr').rank, (hw r hr').target, (hw r hr').mirror⟩) (fun r hr' => Nat.le_trans (hpl r hr') (by decide)) ((hn.below hb (fun _ h => h)).imp (fun b hb2 => Nat.lt_of_lt_of_le hb2 hb.size)) hl (by omega) hd)
  have HOR := hid (fun w' (hb : Below W.heap.size W w') (h16 : l.length ≤ 16) => C12.rorder_any (.slice a l.length cap) l w' (hr.below hb (fun _ h => h)) (fun b hb2 => Nat.lt_of_lt_of_le hb2 hb.size) (by omega))
  have H16 : Hid (d = 0 → l.length ≤ 16) := hid (fun h => cfg_len (hd.trans h))
  have HW := hid hw
  rw [hd] at HC
  obtain ⟨na, ncap, rfl⟩ := hn.form
  clear hr hw hpl hn hl hd hc
  go_enter Try.func72, Try.ntmps72
  go_upto_region 1 with fail
  refine wp_gen ?_
  intro w1 hw1
  have hb1 : Below W.heap.size W w1 := by rw [hw1]; go_grown
  have hk0 : Blk w1 W.heap.size #[.slice a l.length cap, .string f] 109 := by rw [hw1]; exact (Blk.new _ _ _).alloc _
  have hk1 : Blk w1 (W.heap.size + 1) #[.int .i64 0, .slice none 0 0, .string ByteArray.empty] 46 := by rw [hw1]; exact Blk.new' _ _ _ (by simp)
  clear hw1
  have HB1 := hid hb1
  have HK0 := hid hk0
  have HK1 := hid hk1
  have c0 : w1.cell? ⟨W.heap.size, 0, none⟩ = some (.slice a l.length cap) := hk0.cell 0
  have c1 : w1.cell? ⟨W.heap.size, 1, none⟩ = some (.string f) := hk0.cell 1
  have r0 : w1.cell? ⟨W.heap.size + 1, 0, none⟩ = some (.int .i64 0) := hk1.cell 0
  have r1 : w1.cell? ⟨W.heap.size + 1, 1, none⟩ = some (.slice none 0 0) := hk1.cell 1
  have r2 : w1.cell? ⟨W.heap.size + 1, 2, none⟩ = some (.string ByteArray.empty) := hk1.cell 2
  have f0 := hk1.free 0
  have f1 := hk1.free 1
  have f2 := hk1.free 2
  clear hb1 hk0 hk1
  by_cases hv0 : n < 1
  · have hd0 : decide (1 ≤ n) = false := decide_eq_false (by omega)
    obtain rfl : (12 : Int) = c := by
      have := HC.out
      rw [hd0] at this
      simpa using this
    clear HCK HOR H16 HW
    go_wp2_with fail
    refine bodyPost_ret (by simp [results, Try.results72, go_sem, r0, r1, r2]; try rfl) rfl ?_
    exact ⟨_, rfl, compQ_bad (by decide) (HB1.out.trans ((((Only.refl [W.heap.size + 1] w1).setCell (by simp) _).setCell (by simp) _).setCell (by simp) _ |>.below (B := W.heap.size) (by have := HB1.out.size; omega) (fun k hk => by simp at hk; omega)))⟩
  by_cases hv1 : 1099511627776 < n
  · have hd1 : decide (n ≤ 1099511627776) = false := decide_eq_false (by omega)
    obtain rfl : (12 : Int) = c := by
      have := HC.out
      rw [hd1] at this
      simpa using this
    clear HCK HOR H16 HW
    go_wp2_with fail
    refine bodyPost_ret (by simp [results, Try.results72, go_sem, r0, r1, r2]; try rfl) rfl ?_
    exact ⟨_, rfl, compQ_bad (by decide) (HB1.out.trans ((((Only.refl [W.heap.size + 1] w1).setCell (by simp) _).setCell (by simp) _).setCell (by simp) _ |>.below (B := W.heap.size) (by have := HB1.out.size; omega) (fun k hk => by simp at hk; omega)))⟩
  have HCD : Hid (d = c) := hid (by
    have := HC.out
    rw [decide_eq_true (show 1 ≤ n by omega), decide_eq_true (show n ≤ 1099511627776 by omega)] at this
    simpa using this)
  obtain rfl := HCD.out
  clear HCD HC
  go_wp2_with fail
  refine (HCK.out _ HB1.out).mono ?_
  rintro e w2 ⟨rfl, hb2⟩
  have HB2 := hid (HB1.out.trans (hb2.mono HB1.out.size))
  have hk0 := HK0.out.later hb2
  have hk1 := HK1.out.later hb2
  clear c0 c1 r0 r1 r2 f0 f1 f2 hb2
  have c0 : w2.cell? ⟨W.heap.size, 0, none⟩ = some (.slice a l.length cap) := hk0.cell 0
  have c1 : w2.cell? ⟨W.heap.size, 1, none⟩ = some (.string f) := hk0.cell 1
  have r0 : w2.cell? ⟨W.heap.size + 1, 0, none⟩ = some (.int .i64 0) := hk1.cell 0
  have r1 : w2.cell? ⟨W.heap.size + 1, 1, none⟩ = some (.slice none 0 0) := hk1.cell 1
  have r2 : w2.cell? ⟨W.heap.size + 1, 2, none⟩ = some (.string ByteArray.empty) := hk1.cell 2
  have f0 := hk1.free 0
  have f1 := hk1.free 1
  have f2 := hk1.free 2
  by_cases hd0 : d = 0
  rotate_left
  · have e1 : (d == 0) = false := by simpa using hd0
    have e2 : (d != 0) = true := by simpa using hd0
    clear HOR H16 HW r0 r1 r2 f0 f1 f2
    go_wp2_with fail
    refine (HCK.out _ HB2.out).mono ?_
    rintro e w3 ⟨rfl, hb3⟩
    have HB3 := hid (HB2.out.trans (hb3.mono HB2.out.size))
    have hk3 := hk1.later hb3
    have r0 : w3.cell? ⟨W.heap.size + 1, 0, none⟩ = some (.int .i64 0) := hk3.cell 0
    have r1 : w3.cell? ⟨W.heap.size + 1, 1, none⟩ = some (.slice none 0 0) := hk3.cell 1
    have r2 : w3.cell? ⟨W.heap.size + 1, 2, none⟩ = some (.string ByteArray.empty) := hk3.cell 2
    have f0 := hk3.free 0
    have f1 := hk3.free 1
    have f2 := hk3.free 2
    clear hb3 hk3 c0 c1 hk0 hk1
    go_wp2_with fail
    refine bodyPost_ret (by simp [results, Try.results72, go_sem, r0, r1, r2]; try rfl) rfl ?_
    exact ⟨_, rfl, compQ_bad hd0 (HB3.out.trans ((((Only.refl [W.heap.size + 1] w3).setCell (by simp) _).setCell (by simp) _).setCell (by simp) _ |>.below (B := W.heap.size) (by have := HB3.out.size; omega) (fun k hk => by simp at hk; omega)))⟩
  subst hd0
  have h16 := H16.out rfl
  have KEEP : Hid (∀ w', Only [W.heap.size + 1] w2 w' → w'.cell? ⟨W.heap.size, 0, none⟩ = some (.slice a l.length cap) ∧ w'.cell? ⟨W.heap.size, 1, none⟩ = some (.string f)) := hid (fun w' ho => ⟨(hk0.only ho (by simp)).cell 0, (hk0.only ho (by simp)).cell 1⟩)
  have HK2 := hid hk1
  have hg2 := hk1.lt
  have hg3 := hk0.lt
  have HOO : Hid (∀ w', w' = w2 ∨ w' = w2.drew → Calls Try.prog 53 #[.slice a l.length cap] w' (Ret (C12.ROrd w2 l))) := hid (fun w' h => (HOR.out w' (by rcases h with rfl | rfl; exact HB2.out; exact HB2.out.drew) h16).mono (fun e w3 ⟨v, he, hq⟩ => ⟨v, he, rord_drew h hq⟩))
  clear hk0 hk1 HCK HOR H16 r0 r1 r2 f0 f1 f2 c0 c1
  go_wp2_with fail
  go_region_held3 (fun w' => w'.cell? ⟨W.heap.size, 0, none⟩ = some (.slice a l.length cap) ∧ w'.cell? ⟨W.heap.size, 1, none⟩ = some (.string f)) ((refine KEEP.out _ ?_; (repeat' (first | (with_reducible refine Only.setCell ?_ (by simp) _) | (with_reducible refine Only.drew ?_) | (with_reducible exact ho3) | (with_reducible exact Only.refl _ _)))))
    ((go_at_call 53; refine (HOO.out _ (by first | exact .inl rfl | exact .inr rfl)).mono ?_; rintro e w3 ⟨v3, rfl, hq3⟩; obtain ⟨a3, cap3, rfl⟩ := rord_form hq3; have HQ3 := hid hq3; have hb3 := rord_below hq3; have ho3 : Only [W.heap.size + 1] w2 w3 := Only.of_below hb3; have hk3 := HK2.out.later hb3; have r0 : w3.cell? ⟨W.heap.size + 1, 0, none⟩ = some (.int .i64 0) := hk3.cell 0; have r1 : w3.cell? ⟨W.heap.size + 1, 1, none⟩ = some (.slice none 0 0) := hk3.cell 1; have r2 : w3.cell? ⟨W.heap.size + 1, 2, none⟩ = some (.string ByteArray.empty) := hk3.cell 2; have f0 := hk3.free 0; have f1 := hk3.free 1; have f2 := hk3.free 2; have hg4 := hk3.lt; clear hq3 hb3 hk3))
  all_goals
    go_wp2_with fail
    refine bodyPost_ret (by simp [results, Try.results72, go_sem, r0, r1, r2]; try rfl) rfl ?_
    exact ⟨_, rfl, rcomp_fin HW.out h16 hf HB2.out hg2 HQ3.out (by repeat' (first | (with_reducible refine Only.setCell ?_ (by simp) _) | (with_reducible refine Only.drew ?_) | (with_reducible exact Only.refl _ _)))⟩
end C14
end Go.Proofs.Ytmmmaldpalhjeaa
namespace Go.Proofs.Ytmmmaldpalhjeaa
open Go.RowKit Go.Peri
namespace C16
theorem tmod_parts (n : Int) : -100 < n.tmod 100 ∧ n.tmod 100 < 100 ∧ n = 100 * n.tdiv 100 + n.tmod 100 := by
  refine ⟨?_, ?_, ?_⟩
  · have := Int.lt_tmod_of_pos n (show (0:Int) < 100 by decide); omega
  · exact Int.tmod_lt_of_pos n (by decide)
  · exact (Int.mul_tdiv_add_tmod n 100).symm
def firesR (n p : Int) : Bool := decide (n % 100 < p)
end C16
end Go.Proofs.Ytmmmaldpalhjeaa
namespace Go.Proofs.Ytmmmaldpalhjeaa
open Go.RowKit Go.Peri
namespace C16
set_option maxRecDepth 100000 in
set_option maxHeartbeats 2000000 in
theorem fewR_any {B : Nat} (v : Value) (l : List Rl) (r : Bool) (W : World) (h : RowsOf (· < B) Rl.enc 10 W v l) (hw : ∀ x ∈ l, x.Wf W B) (hB : B ≤ W.heap.size) (hl : l.length ≤ 1000000000000000) (hr : Rl.few l = r) :
    Calls Try.prog 47 #[v] W fun e w' => e = .returned (.bool r) ∧ Below W.heap.size W w' := by
  obtain ⟨a, cap, rfl, hlc, hcm, _, hcell⟩ := h
  have HC := hid hcell
  have HR := hid hr
  have HW := hid hw
  clear hcell hr hw
  by_cases h60 : 40 < l.length
  · have hd : Hid (Rl.few l = false) := hid (by unfold Rl.few; rw [decide_eq_false (by omega)]; rfl)
    go_enter Try.func47, Try.ntmps47
    go_wp2_with fail
    go_ret
    exact ⟨by rw [← HR.out, hd.out]; rfl, Below.refl _ _⟩
  go_enter Try.func47, Try.ntmps47
  go_wp2_with fail
  go_loopw [3] (fun i wr => ∃ k : Nat, k ≤ l.length ∧ i = .int .i64 k ∧ Below W.heap.size W wr ∧ ∀ j (_ : j < k) (h1 : j < l.length), Rl.fewB l[j] = true) (fun i _ => l.length - (intOf i).toNat)
  case atStart => exact ⟨0, Nat.zero_le _, rfl, Below.refl _ _, fun j hj => absurd hj (Nat.not_lt_zero _)⟩
  case round =>
    obtain ⟨k, hk, rfl, hb, hno⟩ := hrel
    have HB := hid hb
    have HN := hid hno
    clear hb hno
    by_cases hlt : k < l.length
    · obtain ⟨bb, off, rfl, hpb, hc⟩ := HC.out.resolve_left (by intro e; rw [e] at hlt; simp at hlt)
      have hbl0 : bb < W.heap.size := Nat.lt_of_lt_of_le hpb hB
      have hbl : bb < wr.heap.size := Nat.lt_of_lt_of_le hbl0 HB.out.size
      have hcc := Rl.cells (fun j u hu => (HB.out.cell (p := ⟨bb, off + k * 10 + j, none⟩) hbl0).trans (hc k hlt j u hu))
      have HNext : Hid (Rl.fewB l[k] = true → ∀ j (_ : j < k + 1) (h1 : j < l.length), Rl.fewB l[j] = true) := by
        intro he j hj h1
        by_cases e : j = k
        · subst e; exact he
        · exact HN.out j (by omega) h1
      have HHit : Hid (Rl.fewB l[k] = false → Rl.few l = false) := fun h1 => by
        unfold Rl.few
        rw [Bool.and_eq_false_iff]
        right
        rw [List.all_eq_false]
        exact ⟨l[k], List.getElem_mem hlt, by rw [Bool.not_eq_true]; exact h1⟩
      have hwy := HW.out l[k] (List.getElem_mem hlt)
      clear hc
      generalize l[k] = y at hcc HNext HHit hwy
      obtain ⟨fp, hfp⟩ : ∃ q, Prd.few y.preds = q := ⟨_, rfl⟩
      have HFx : Hid (∀ x : BW wr, Calls Try.prog 42 #[.slice y.pa y.preds.length y.pcap] x.val fun e w' => e = .returned (.bool fp) ∧ Below x.val.heap.size x.val w') := hid (fun x => by
        have hg := HB.out.trans (x.prop.mono HB.out.size)
        exact C11.few_any _ y.preds fp x.val (hwy.rows.below (hg.mono hB) (fun _ h => h)) (fun b hb => Nat.lt_of_lt_of_le hb (Nat.le_trans hB hg.size)) hwy.preds (by have := hwy.len; omega) hfp)
      have hy1 := hwy.target
      have hy2 := hwy.mirror
      have hk1 : (k : Int) < (l.length : Int) := by omega
      have HF : Hid (Rl.fewB y = (fp && decide (y.target.size + y.mirror.size ≤ 400))) := hid (by rw [← hfp]; rfl)
      obtain ⟨n1, hn1⟩ : ∃ n, n = y.target.size := ⟨_, rfl⟩
      obtain ⟨n2, hn2⟩ : ∃ n, n = y.mirror.size := ⟨_, rfl⟩
      rw [← hn1] at hy1 HF
      rw [← hn2] at hy2 HF
      clear hfp hwy
      cases fp
      · have HV := hid (HHit.out (by rw [HF.out]; rfl))
        clear HHit HNext hn1 hn2 HF
        obtain ⟨c0, c1, c2, c3, c4, c5, c6, c7, c8, c9⟩ := hcc
        go_wp2_with fail
        refine wp_region_bw (by kernel_rfl) (by kernel_rfl) ?_
        repeat (go_big_quiet_step ((go_at_call 42; exact bw_call (HFx.out _))))
        refine wpQuiet_nil ?_
        rintro w2 ⟨⟨_, hbw⟩, rfl⟩
        have HB1 := hid (HB.out.trans (hbw.mono HB.out.size))
        clear hbw
        go_wp2_with fail
        go_ret
        exact ⟨by rw [← HR.out, HV.out]; rfl, HB1.out⟩
      by_cases hs : n1 + n2 ≤ 400
      · have HV := hid (HNext.out (by rw [HF.out, decide_eq_true hs]; rfl))
        have hwr : IntKind.i64.wrap ((n1 : Int) + (n2 : Int)) = (n1 : Int) + (n2 : Int) := IntWalk.i64_in _ (by omega)
        have hle : ¬ (400 : Int) < (n1 : Int) + (n2 : Int) := by omega
        rw [hn1, hn2] at hwr hle
        clear HHit HNext hn1 hn2 HF
        obtain ⟨c0, c1, c2, c3, c4, c5, c6, c7, c8, c9⟩ := hcc
        go_wp2_with fail
        refine wp_region_bw (by kernel_rfl) (by kernel_rfl) ?_
        repeat (go_big_quiet_step ((go_at_call 42; exact bw_call (HFx.out _))))
        refine wpQuiet_nil ?_
        rintro w2 ⟨⟨_, hbw⟩, rfl⟩
        have HB1 := hid (HB.out.trans (hbw.mono HB.out.size))
        clear hbw
        go_wp2_with fail
        go_roundw
        case rel => exact ⟨k + 1, by omega, by go_num, HB1.out, HV.out⟩
        case measure => simp [intOf]; omega
      · have HV := hid (HHit.out (by rw [HF.out, decide_eq_false hs]; rfl))
        have hwr : IntKind.i64.wrap ((n1 : Int) + (n2 : Int)) = (n1 : Int) + (n2 : Int) := IntWalk.i64_in _ (by omega)
        have hle : (400 : Int) < (n1 : Int) + (n2 : Int) := by omega
        rw [hn1, hn2] at hwr hle
        clear HHit HNext hn1 hn2 HF
        obtain ⟨c0, c1, c2, c3, c4, c5, c6, c7, c8, c9⟩ := hcc
        go_wp2_with fail
        refine wp_region_bw (by kernel_rfl) (by kernel_rfl) ?_
        repeat (go_big_quiet_step ((go_at_call 42; exact bw_call (HFx.out _))))
        refine wpQuiet_nil ?_
        rintro w2 ⟨⟨_, hbw⟩, rfl⟩
        have HB1 := hid (HB.out.trans (hbw.mono HB.out.size))
        clear hbw
        go_wp2_with fail
        go_ret
        exact ⟨by rw [← HR.out, HV.out]; rfl, HB1.out⟩
    · obtain rfl : k = l.length := by omega
      have hd : Hid (Rl.few l = true) := hid (by
        unfold Rl.few
        rw [decide_eq_true (by omega), Bool.true_and, List.all_eq_true]
        intro x hx
        obtain ⟨i, hi, rfl⟩ := List.getElem_of_mem hx
        exact HN.out i hi hi)
      go_wp2_with fail
      go_ret
      exact ⟨by rw [← HR.out, hd.out]; rfl, HB.out⟩
def fewT (l : List Rl) (f : ByteArray) : Bool := decide (f.size ≤ 400) && Rl.few l
set_option maxRecDepth 100000 in
set_option maxHeartbeats 1000000 in
theorem fewT_any {B : Nat} (n : Int) (l : List Rl) (a : Option Addr) (cap : Nat) (f : ByteArray) (r : Bool) (W : World) (ht : TabV W B l a cap f) (hB : B ≤ W.heap.size) (hr : fewT l f = r) :
    Calls Try.prog 33 #[.agg #[.int .i64 n, .slice a l.length cap, .string f]] W fun e w' => e = .returned (.bool r) ∧ Below W.heap.size W w' := by
  have HB0 : Hid (Below W.heap.size W (W.alloc (.cells #[.int .i64 n, .slice a l.length cap, .string f] 46))) := by show Below _ _ _; go_grown
  have hf := ht.f
  unfold fewT at hr
  by_cases h4 : f.size ≤ 400
  · rw [decide_eq_true h4, Bool.true_and] at hr
    have g1 : (f.size : Int) ≤ 400 := by omega
    have HF := hid (fun w' (hw : Below W.heap.size W w') => fewR_any (.slice a l.length cap) l r w' (ht.rows.below (hw.mono hB) (fun _ h => h)) (fun x hx => (ht.wf x hx).below (hw.mono hB)) (Nat.le_trans hB hw.size) (by have := ht.len; omega) hr)
    clear ht hr h4
    go_enter Try.func33, Try.ntmps33
    go_wp2_with fail
    refine (HF.out _ HB0.out).mono ?_
    rintro e w1 ⟨rfl, hb1⟩
    have HB1 := hid (HB0.out.trans (hb1.mono HB0.out.size))
    clear hb1
    go_wp2_with fail
    go_ret
    exact ⟨rfl, HB1.out⟩
  · rw [decide_eq_false h4, Bool.false_and] at hr
    subst hr
    have g1 : ¬ (f.size : Int) ≤ 400 := by omega
    have g2 : (400 : Int) < (f.size : Int) := by omega
    clear ht h4
    go_enter Try.func33, Try.ntmps33
    go_wp2_with fail
    go_ret
    exact ⟨rfl, HB0.out⟩
end C16
end Go.Proofs.Ytmmmaldpalhjeaa
