/- Walks of layer 17 (snap): what must come of fixed calls; no condition. The law SnapPlays walked (17); no condition. -/
import Derived.Test.YtmmmaldpalhjeaaMg17
import Derived.Test.YtmmmaldpalhjeaaMg03
import Derived.Test.YtmmmaldpalhjeaaMg10
import Derived.Deep.Cut
import Derived.Deep.RegionHeld3
namespace Go.Proofs.Ytmmmaldpalhjeaa
open Go.RowKit Go.Peri
namespace C17
open C12 (wp_gen)
def kA : Rl := ⟨0, none, 0, [], ⟨#[97]⟩, 0, 0, 0, 0, 0, ByteArray.empty, 0⟩
def kB : Rl := ⟨0, none, 0, [], ⟨#[98]⟩, 0, 0, 0, 0, 0, ByteArray.empty, 0⟩
def kN : List ByteArray := [⟨#[97]⟩]
theorem kA_wf (w : World) (B : Nat) : kA.Wf w B := ⟨RowsOf.nil _ _ _ _, by decide, by simp [kA], by simp [kA, Sp.I64], by decide, by decide⟩
theorem kB_wf (w : World) (B : Nat) : kB.Wf w B := ⟨RowsOf.nil _ _ _ _, by decide, by simp [kB], by simp [kB, Sp.I64], by decide, by decide⟩
theorem tabA {w : World} {b : Nat} (h : Blk w b #[.int .i64 0, .slice none 0 0, .string ⟨#[97]⟩, .int .i64 0, .int .i64 0, .int .i64 0, .int .i64 0, .int .i64 0, .string ByteArray.empty, .int .i64 0] 60) : TabV w w.heap.size [kA] (some ⟨b, 0, none⟩) 1 ByteArray.empty :=
  ⟨(rows_of_blk (l := [kA]) Rl.enc_length h rfl (by decide)).imp (fun c hc => by rw [hc]; exact h.lt), by decide, fun x hx => by
    have : x = kA := by simpa using hx
    rw [this]; exact kA_wf _ _, by decide⟩
theorem tabB {w : World} {b : Nat} (h : Blk w b #[.int .i64 0, .slice none 0 0, .string ⟨#[98]⟩, .int .i64 0, .int .i64 0, .int .i64 0, .int .i64 0, .int .i64 0, .string ByteArray.empty, .int .i64 0] 60) : TabV w w.heap.size [kB] (some ⟨b, 0, none⟩) 1 ByteArray.empty :=
  ⟨(rows_of_blk (l := [kB]) Rl.enc_length h rfl (by decide)).imp (fun c hc => by rw [hc]; exact h.lt), by decide, fun x hx => by
    have : x = kB := by simpa using hx
    rw [this]; exact kB_wf _ _, by decide⟩
theorem tab0 (w : World) : TabV w w.heap.size [] none 0 ByteArray.empty := ⟨RowsOf.nil _ _ _ _, by decide, by simp, by decide⟩
theorem j0 : judgeE kN 0 2 ByteArray.empty [kA] = 0 := by rfl
theorem j1 : judgeE kN 2 1 ByteArray.empty [] = 13 := by rfl
theorem j2 : judgeE kN 2 3 ByteArray.empty [kB] = 2 := by rfl
theorem kA_ps : ∀ x ∈ [kA], x.preds.length ≤ 1000000 := by
  intro x hx
  have : x = kA := by simpa using hx
  rw [this]; decide
theorem kB_ps : ∀ x ∈ [kB], x.preds.length ≤ 1000000 := by
  intro x hx
  have : x = kB := by simpa using hx
  rw [this]; decide
def Known : Prop := ∀ W : World, Calls Try.prog 31 #[] W fun e w' => e = .returned (.bool true) ∧ Below W.heap.size W w'
set_option maxRecDepth 100000 in
set_option maxHeartbeats 8000000 in
theorem known_any : Known := by
  intro W
  have HNW := hid (new_any (.slice (some ⟨W.heap.size, 0, none⟩) 1 1) kN (W.alloc (.cells #[.string ⟨#[97]⟩] 9)) ((rows_of_blk (l := kN) (enc := sEnc) (k := 1) (fun _ => rfl) (Blk.new W #[.string ⟨#[97]⟩] 9) rfl (by decide)).imp (fun b hb => by rw [hb]; simp)) (by decide))
  have HB1 : Hid (Below W.heap.size W (W.alloc (.cells #[.string ⟨#[97]⟩] 9))) := by show Below _ _ _; go_grown
  go_enter Try.func31, Try.ntmps31
  go_wp2_with fail
  refine HNW.out.mono ?_
  rintro e w2 ⟨g, v2, rfl, hg, hb2, hh2⟩
  have HB2 := hid (HB1.out.trans (hb2.mono HB1.out.size))
  have HH2 := hid hh2.out
  have hgW : W.heap.size ≤ g := Nat.le_trans HB1.out.size hg
  clear hb2 hh2 hg HNW
  have HV2 := hid (version_any g 0 w2 (HH2.out.blk.cell 4))
  have HG2 := hid (getq_any w2 HH2.out (by decide) (by simp))
  go_wp2_with fail
  refine HV2.out.mono ?_
  rintro e w' ⟨rfl, rfl⟩
  go_wp2_with fail
  refine HG2.out.mono ?_
  rintro e w3 ⟨v3, rfl, l3, a3, cap3, rfl, hb3, hc3, ht3⟩
  have hfd : ∀ w, (Instr.field 46 (.agg #[.int .i64 0, .slice a3 l3.length cap3, .string ByteArray.empty]) 0).run Try.prog w = .ok (.int .i64 0) w := fun w => by kernel_rfl
  have HB3 := hid (HB2.out.trans (hb3.mono HB2.out.size))
  have HH3 := hid (HH2.out.only0 hb3)
  clear hb3 hc3 ht3 HV2 HG2
  generalize l3.length = m3 at hfd
  go_upto_region 5 with fail
  refine wp_gen ?_
  intro w4 hw4
  have hb4 : Below w3.heap.size w3 w4 := by rw [hw4]; go_grown
  have hr4 : Blk w4 w3.heap.size #[.int .i64 0, .slice none 0 0, .string ⟨#[97]⟩, .int .i64 0, .int .i64 0, .int .i64 0, .int .i64 0, .int .i64 0, .string ByteArray.empty, .int .i64 0] 60 := by rw [hw4]; exact (Blk.new _ _ _).alloc _
  have ht4 : Blk w4 (w3.heap.size + 1) #[.int .i64 2, .slice (some ⟨w3.heap.size, 0, none⟩) 1 1, .string ByteArray.empty] 46 := by rw [hw4]; exact Blk.new' _ _ _ (by simp)
  clear hw4
  have HB4 := hid (HB3.out.trans (hb4.mono HB3.out.size))
  have HH4 := hid (HH3.out.only0 hb4)
  have HR4 := hid hr4
  have HT4 := hid ht4
  have hgl : g < w3.heap.size := HH3.out.blk.lt
  have c0 : w4.cell? ⟨w3.heap.size + 1, 0, none⟩ = some (.int .i64 2) := ht4.cell 0
  have c1 : w4.cell? ⟨w3.heap.size + 1, 1, none⟩ = some (.slice (some ⟨w3.heap.size, 0, none⟩) 1 1) := ht4.cell 1
  have c2 : w4.cell? ⟨w3.heap.size + 1, 2, none⟩ = some (.string ByteArray.empty) := ht4.cell 2
  have HP4 := hid (push_any w4 HH4.out (by decide) (by decide) (by decide) 2 [kA] (some ⟨w3.heap.size, 0, none⟩) 1 ByteArray.empty 0 (tabA hr4) (by decide) kA_ps j0)
  clear hb4 hr4 ht4
  go_wp2_with fail
  refine HP4.out.mono ?_
  rintro e w5 ⟨rfl, ho5, l5, a5, cap5, hc5, hh5⟩
  simp only [if_true] at hc5 hh5
  have HO5 := hid ho5
  have HC5 := hid hc5
  have HP5 := hid (push_any w5 hh5 (by decide) (by decide) (by decide) 1 [] none 0 ByteArray.empty 13 (tab0 w5) (by decide) (by simp) j1)
  have HH5 := hid hh5
  clear ho5 hc5 hh5 c0 c1 c2 HP4
  go_wp2_with fail
  refine HP5.out.mono ?_
  rintro e w6 ⟨rfl, ho6, l6, a6, cap6, hc6, hh6⟩
  rw [if_neg (by decide)] at hc6
  rw [if_neg (by decide), if_neg (by decide), if_neg (by decide), if_neg (by decide)] at hh6
  have HO6 := hid (HO5.out.trans ho6)
  have HC6 := hid (hc6.trans HC5.out)
  have hb6 : Below w6.heap.size w6 (w6.alloc (.cells #[.int .i64 0, .slice none 0 0, .string ⟨#[98]⟩, .int .i64 0, .int .i64 0, .int .i64 0, .int .i64 0, .int .i64 0, .string ByteArray.empty, .int .i64 0] 60)) := by go_grown
  have HP6 := hid (push_any (w6.alloc (.cells #[.int .i64 0, .slice none 0 0, .string ⟨#[98]⟩, .int .i64 0, .int .i64 0, .int .i64 0, .int .i64 0, .int .i64 0, .string ByteArray.empty, .int .i64 0] 60)) (hh6.only0 hb6) (by decide) (by decide) (by decide) 3 [kB] (some ⟨w6.heap.size, 0, none⟩) 1 ByteArray.empty 2 (tabB (Blk.new w6 _ _)) (by decide) kB_ps j2)
  have HB6 := hid hb6
  clear ho6 hc6 hh6 hb6 HP5 HH5
  go_wp2_with fail
  refine HP6.out.mono ?_
  rintro e w7 ⟨rfl, ho7, l7, a7, cap7, hc7, hh7⟩
  rw [if_neg (by decide)] at hc7
  rw [if_neg (by decide), if_neg (by decide), if_neg (by decide), if_neg (by decide)] at hh7
  have HO7 : Hid (Only [g] w4 w7) := hid (HO6.out.trans ((Only.of_below HB6.out).trans ho7))
  have HC7 := hid (hc7.trans HC6.out)
  have HH7 := hid hh7
  have HT7 := hid (HT4.out.only HO7.out (by simp; omega))
  have HR7 := hid (HR4.out.only HO7.out (by simp; omega))
  have HB7 : Hid (Below W.heap.size W w7) := hid (HB4.out.trans (HO7.out.below HB4.out.size (fun k hk => by simp at hk; omega)))
  have hl7 : l7.length = 1 := by
    have := congrArg List.length HC7.out
    simpa using this
  have HL7 := hid hl7
  have HPS7 : Hid (∀ x ∈ l7, x.preds.length ≤ 1000000) := hid (C14.psl_core HC7.out kA_ps)
  clear ho7 hc7 hh7 hl7 HP6 HO5 HO6 HC5 HC6 HB6
  have KEEP : Hid (∀ w', Below w7.heap.size w7 w' → w'.cell? ⟨w3.heap.size + 1, 0, none⟩ = some (.int .i64 2) ∧ w'.cell? ⟨w3.heap.size + 1, 1, none⟩ = some (.slice (some ⟨w3.heap.size, 0, none⟩) 1 1) ∧ w'.cell? ⟨w3.heap.size + 1, 2, none⟩ = some (.string ByteArray.empty)) := hid (fun w' hb => ⟨(HT7.out.later hb).cell 0, (HT7.out.later hb).cell 1, (HT7.out.later hb).cell 2⟩)
  have XV : Hid (∀ w', Below w7.heap.size w7 w' → Calls Try.prog 38 #[.pointer (some ⟨g, 0, none⟩)] w' fun e w'' => e = .returned (.int .i64 2) ∧ w' = w'') := hid (fun w' hb => version_any g 2 w' ((HH7.out.only0 hb).blk.cell 4))
  have XT : Hid (∀ w', Below w7.heap.size w7 w' → Calls Try.prog 39 #[.pointer (some ⟨g, 0, none⟩)] w' fun e w'' => e = .returned (.int .i64 1) ∧ w' = w'') := hid (fun w' hb => taken_any g 1 w' ((HH7.out.only0 hb).blk.cell 5))
  have XR : Hid (∀ w', Below w7.heap.size w7 w' → Calls Try.prog 40 #[.pointer (some ⟨g, 0, none⟩)] w' fun e w'' => e = .returned (.int .i64 2) ∧ w' = w'') := hid (fun w' hb => refused_any g 2 w' ((HH7.out.only0 hb).blk.cell 6))
  have XG : Hid (∀ w', Below w7.heap.size w7 w' → Calls Try.prog 37 #[.pointer (some ⟨g, 0, none⟩)] w' (Ret (GetQ0 2 l7 ByteArray.empty w7))) := hid (fun w' hb => getq0_any w7 w' hb (HH7.out.only0 hb) (by rw [HL7.out]; decide) HPS7.out)
  have XS : Hid (∀ w' l8 a8 cap8, Below w7.heap.size w7 w' → l8.map Rl.core = l7.map Rl.core → TabV w' w'.heap.size l8 a8 cap8 ByteArray.empty → Calls Try.prog 36 #[.agg #[.int .i64 2, .slice a8 l8.length cap8, .string ByteArray.empty], .agg #[.int .i64 2, .slice (some ⟨w3.heap.size, 0, none⟩) 1 1, .string ByteArray.empty]] w' fun e w'' => e = .returned (.bool true) ∧ Below w'.heap.size w' w'') := hid (fun w' l8 a8 cap8 hb hc ht => by
    have hl8 : l8.length = 1 := by
      have := congrArg List.length (hc.trans HC7.out)
      simpa using this
    exact same_core 2 l8 [kA] a8 (some ⟨w3.heap.size, 0, none⟩) cap8 1 ByteArray.empty w' ht (tabA (HR7.out.later hb)) (by rw [hl8]; decide) (C14.psl_core hc HPS7.out) (hc.trans HC7.out))
  have XN := hid (fun w' => nothing_any w')
  go_wp2_with fail
  go_region_held3 (fun w' => w'.cell? ⟨w3.heap.size + 1, 0, none⟩ = some (.int .i64 2) ∧ w'.cell? ⟨w3.heap.size + 1, 1, none⟩ = some (.slice (some ⟨w3.heap.size, 0, none⟩) 1 1) ∧ w'.cell? ⟨w3.heap.size + 1, 2, none⟩ = some (.string ByteArray.empty)) ((refine KEEP.out _ ?_; (first | assumption | exact Below.refl _ _ | exact (Below.refl _ _).drew)))
    ((first
      | (go_at_call 38; refine (XV.out _ (by first | assumption | exact Below.refl _ _ | exact (Below.refl _ _).drew)).mono ?_; rintro e w' ⟨rfl, rfl⟩)
      | (go_at_call 39; refine (XT.out _ (by first | assumption | exact Below.refl _ _ | exact (Below.refl _ _).drew)).mono ?_; rintro e w' ⟨rfl, rfl⟩)
      | (go_at_call 40; refine (XR.out _ (by first | assumption | exact Below.refl _ _ | exact (Below.refl _ _).drew)).mono ?_; rintro e w' ⟨rfl, rfl⟩)
      | (go_at_call 37; refine (XG.out _ (by first | assumption | exact Below.refl _ _ | exact (Below.refl _ _).drew)).mono ?_; rintro e w8 ⟨v8, rfl, l8, a8, cap8, rfl, hB8, hc8, ht8⟩; have HC8 := hid hc8; have HT8 := hid ht8; clear hc8 ht8)
      | (go_at_call 36; refine (XS.out _ _ _ _ hB8 HC8.out HT8.out).mono ?_; rintro e w9 ⟨rfl, hb9⟩; have hB9 : Below w7.heap.size w7 w9 := hB8.trans (hb9.mono hB8.size); clear hb9)
      | (go_at_call 87; refine (XN.out _).mono ?_; rintro e wa ⟨rfl, hba⟩; have hBa : Below w7.heap.size w7 wa := hB9.trans (hba.mono hB9.size); clear hba)))
  all_goals
    have HBA := hid (HB7.out.trans (hBa.mono HB7.out.size))
    go_wp2_with fail
    go_ret
    exact ⟨rfl, HBA.out⟩
end C17
end Go.Proofs.Ytmmmaldpalhjeaa
namespace Go.Proofs.Ytmmmaldpalhjeaa
open Go.RowKit Go.Peri
namespace C17
open C12 (wp_gen)
open C14 (TabV.at')
theorem TabV.up {w : World} {B B' : Nat} {l : List Rl} {a : Option Addr} {cap : Nat} {f : ByteArray} (h : TabV w B l a cap f) (hB : B ≤ B') : TabV w B' l a cap f :=
  ⟨h.rows.imp (fun _ h => Nat.lt_of_lt_of_le h hB), h.len, fun x hx => ⟨(h.wf x hx).rows.imp (fun _ h => Nat.lt_of_lt_of_le h hB), (h.wf x hx).len, (h.wf x hx).preds, (h.wf x hx).rank, (h.wf x hx).target, (h.wf x hx).mirror⟩, h.f⟩
theorem rpush_q (B : Nat) (W0 W : World) (h0 : Below W0.heap.size W0 W) (hB : B ≤ W.heap.size) (vn : Value) (ns : List ByteArray) (n : Int) (l : List Rl) (a : Option Addr) (cap : Nat) (f : ByteArray) (tk rf : Int) (hx : TabV W B l a cap f) (hn : RowsOf (· < W.heap.size) sEnc 1 W vn ns) (hns : ns.length ≤ 1000000) (htk : 0 ≤ tk ∧ tk ≤ 1000000) (hrf : 0 ≤ rf ∧ rf ≤ 1000000) (n' : Int) (l' : List Rl) (a' : Option Addr) (cap' : Nat) (f' : ByteArray) (E : Int) (ht : TabV W B l' a' cap' f') (hl : l'.length ≤ 1000000) (hps : ∀ x ∈ l', x.preds.length ≤ 1000000) (hE : judgeE ns n n' f' l' = E) :
    Calls Try.prog 35 #[.agg #[vn, .int .i64 n, .slice a l.length cap, .string f, .int .i64 tk, .int .i64 rf], .agg #[.int .i64 n', .slice a' l'.length cap', .string f']] W fun e w' => ∃ (l2 : List Rl) (a2 : Option Addr) (cap2 : Nat), e = .returned (.tuple #[.agg #[vn, .int .i64 (if E = 0 then n' else n), .slice a2 l2.length cap2, .string (if E = 0 then f' else f), .int .i64 (if E = 0 then tk + 1 else tk), .int .i64 (if E = 0 then rf else rf + 1)], .int .i64 E]) ∧ Below W0.heap.size W0 w' ∧ TabV w' B l2 a2 cap2 (if E = 0 then f' else f) ∧ l2.map Rl.core = (if E = 0 then l' else l).map Rl.core := by
  refine (rpush_any W vn ns n l a cap f tk rf hn hns htk hrf n' l' a' cap' f' E (TabV.up ht hB) hl hps hE).mono ?_
  rintro e w' ⟨rfl, hb⟩
  by_cases h : E = 0
  · subst h
    exact ⟨l', a', cap', by simp, h0.trans (hb.mono h0.size), ht.below (hb.mono hB), rfl⟩
  · simp only [if_neg h]
    exact ⟨l, a, cap, rfl, h0.trans (hb.mono h0.size), hx.below (hb.mono hB), rfl⟩
/-- The holder, and the document's, behind k pushes. -/
structure Both (W : World) (g b6 : Nat) (v2 vn : Value) (ns : List ByteArray) (k : Nat) (n : Int) (lh : List Rl) (ah : Option Addr) (caph : Nat) (f : ByteArray) (tk rf : Int) (lx : List Rl) (ax : Option Addr) (capx : Nat) (wr : World) : Prop where
  hold : Hold 138 wr g [b6, g] v2 ns n lh ah caph f tk rf
  blk : Blk wr b6 #[vn, .int .i64 n, .slice ax lx.length capx, .string f, .int .i64 tk, .int .i64 rf] 48
  tab : TabV wr W.heap.size lx ax capx f
  core : lh.map Rl.core = lx.map Rl.core
  tk0 : 0 ≤ tk
  rf0 : 0 ≤ rf
  sum : tk + rf = k
  below : Below W.heap.size W wr
  len : lh.length ≤ 1000000
  ps : ∀ x ∈ lh, x.preds.length ≤ 1000000
set_option maxRecDepth 100000 in
set_option maxHeartbeats 16000000 in
theorem plays_walk (K : Known) (ns : List ByteArray) (vn : Value) (ts : List Tb) (vt : Value) (W : World) (hn : RowsOf (· < W.heap.size) sEnc 1 W vn ns) (hl : ns.length * 16 ≤ 140737488351232) (ht : RowsOf (· < W.heap.size) Tb.enc 3 W vt ts) (htl : ts.length * 48 ≤ 140737488351232) (hw : ∀ t ∈ ts, t.Wf W W.heap.size) :
    Calls Try.prog 6 #[vn, vt] W fun e w' => e = .returned (.bool true) ∧ Below W.heap.size W w' := by
  have HK := hid K
  have HNM := hid (fun w' (hb : Below W.heap.size W w') => (hn.below hb (fun _ h => h)).imp (fun b h => Nat.lt_of_lt_of_le h hb.size))
  have HTV := hid (fun w' (hb : Below W.heap.size W w') (t : Tb) (h : t ∈ ts) => (fun g : TabV w' W.heap.size t.l t.a t.cap t.f => (⟨g.rows.imp (fun b h => Nat.lt_of_lt_of_le h hb.size), g.len, fun x hx => ⟨(g.wf x hx).rows.imp (fun b h => Nat.lt_of_lt_of_le h hb.size), (g.wf x hx).len, (g.wf x hx).preds, (g.wf x hx).rank, (g.wf x hx).target, (g.wf x hx).mirror⟩, g.f⟩ : TabV w' w'.heap.size t.l t.a t.cap t.f)) ((hw t h).below hb))
  have HNW := hid (fun (h20 : ns.length ≤ 20) => new_any vn ns W hn (by omega))
  obtain ⟨at_, capt, rfl, hlc, hcm, _, hcell⟩ := ht
  have HC := hid hcell
  obtain ⟨na, ncap, rfl⟩ := hn.form
  clear hn hcell hw
  by_cases h20 : 20 < ns.length
  · have hd : decide ((20 : Int) < (ns.length : Int)) = true := decide_eq_true (by omega)
    have HB0 := hid (Below.refl W.heap.size W)
    have i0 : (20 : Int) < (ns.length : Int) := by omega
    go_enter Try.func6, Try.ntmps6
    go_wp2_with fail
    refine (HK.out _).mono ?_
    rintro e wk ⟨rfl, hbk⟩
    have HBK := hid (HB0.out.trans (hbk.mono HB0.out.size))
    clear hbk
    go_wp2_with fail
    go_ret
    exact ⟨rfl, HBK.out⟩
  by_cases h30 : 30 < ts.length
  · have HB0 := hid (Below.refl W.heap.size W)
    have i0 : ¬ (20 : Int) < (ns.length : Int) := by omega
    have hd : decide ((20 : Int) < (ns.length : Int)) = false := decide_eq_false i0
    have i1 : (30 : Int) < (ts.length : Int) := by omega
    go_enter Try.func6, Try.ntmps6
    go_wp2_with fail
    refine (HK.out _).mono ?_
    rintro e wk ⟨rfl, hbk⟩
    have HBK := hid (HB0.out.trans (hbk.mono HB0.out.size))
    clear hbk
    go_wp2_with fail
    go_ret
    exact ⟨rfl, HBK.out⟩
  have i0 : ¬ (20 : Int) < (ns.length : Int) := by omega
  have hd : decide ((20 : Int) < (ns.length : Int)) = false := decide_eq_false i0
  have i1 : ¬ (30 : Int) < (ts.length : Int) := by omega
  have hd2 : decide ((30 : Int) < (ts.length : Int)) = false := decide_eq_false i1
  go_enter Try.func6, Try.ntmps6
  go_wp2_with fail
  refine (HNW.out (by omega)).mono ?_
  rintro e w2 ⟨g, v2, rfl, hg, hb2, hh2⟩
  have HB2 := hid hb2
  have HH2 := hid hh2.out
  clear hb2 hh2
  go_upto_region 5 with fail
  refine wp_gen ?_
  intro w3 hw3
  have hb3 : Below w2.heap.size w2 w3 := by rw [hw3]; go_grown
  have hk3 : Blk w3 w2.heap.size #[.slice na ns.length ncap, .int .i64 0, .slice none 0 0, .string ByteArray.empty, .int .i64 0, .int .i64 0] 48 := by rw [hw3]; exact Blk.new _ _ _
  clear hw3
  have HSTART : Hid (Both W g w2.heap.size v2 (.slice na ns.length ncap) ns 0 0 [] none 0 ByteArray.empty 0 0 [] none 0 w3) := hid ⟨HH2.out.more hb3 (Nat.le_refl _) hk3.lt, hk3, ⟨RowsOf.nil _ _ _ _, by decide, by simp, by decide⟩, rfl, by decide, by decide, rfl, HB2.out.trans (hb3.mono HB2.out.size), by decide, by simp⟩
  have hgx : g < w2.heap.size := HH2.out.blk.lt
  have hgW : W.heap.size ≤ w2.heap.size := HB2.out.size
  have hgW0 : W.heap.size ≤ g := hg
  clear hb3 hk3 HB2 HH2
  generalize w2.heap.size = b6 at *
  go_wp2_with fail
  go_loopw [7] (fun i wr => ∃ k : Nat, k ≤ ts.length ∧ i = .int .i64 k ∧ Hid (∃ n lh ah caph f tk rf lx ax capx, Both W g b6 v2 (.slice na ns.length ncap) ns k n lh ah caph f tk rf lx ax capx wr)) (fun i _ => ts.length - (intOf i).toNat)
  case atStart => exact ⟨0, Nat.zero_le _, rfl, hid ⟨_, _, _, _, _, _, _, _, _, _, HSTART.out⟩⟩
  case round =>
    obtain ⟨k, hk, rfl, hh⟩ := hrel
    obtain ⟨n, lh, ah, caph, f, tk, rf, lx, ax, capx, hB⟩ := hh.out
    clear hh
    have HBO := hid hB
    have HB := hid hB.below
    clear hB
    by_cases hlt : k < ts.length
    · obtain ⟨b, off, rfl, hpb, hc⟩ := HC.out.resolve_left (by intro e; rw [e] at hlt; simp at hlt)
      have HBT : Hid (∀ w', Below W.heap.size W w' → ∀ j u, ts[k].enc[j]? = some u → w'.cell? ⟨b, off + k * 3 + j, none⟩ = some u) := hid (fun w' hb j u hu => (hb.cell (p := ⟨b, off + k * 3 + j, none⟩) hpb).trans (hc k hlt j u hu))
      have HTK := hid (fun w' hb => HTV.out w' hb ts[k] (List.getElem_mem hlt))
      clear hc
      generalize ts[k] = t at HBT HTK
      obtain ⟨q, hq⟩ : ∃ q, C16.fewT t.l t.f = q := ⟨_, rfl⟩
      have HFW := hid (fun w' hb => C16.fewT_any t.n t.l t.a t.cap t.f q w' (HTK.out w' hb) (Nat.le_refl _) hq)
      have HPS : Hid (q = true → t.l.length ≤ 40 ∧ ∀ x ∈ t.l, x.preds.length ≤ 1000000) := hid (fun e => by
        subst e
        unfold C16.fewT at hq
        rw [Bool.and_eq_true] at hq
        exact ⟨Rl.few_len hq.2, fun r hr' => Nat.le_trans (Rl.few_preds hq.2 r hr') (by decide)⟩)
      clear hq
      have j0 : (0 : Int) ≤ (k : Int) := by omega
      have j1 : (k : Int) < (ts.length : Int) := by omega
      obtain ⟨e0, e1, e2⟩ := Tb.cells (HBT.out wr HB.out)
      go_wp2_with fail
      refine (HFW.out _ HB.out).mono ?_
      rintro e w4 ⟨rfl, hb4⟩
      have HB4 := hid (HB.out.trans (hb4.mono HB.out.size))
      have HS4 := hid hb4
      clear hb4 e0 e1 e2
      cases q
      · go_wp2_with fail
        refine (HK.out _).mono ?_
        rintro e wk ⟨rfl, hbk⟩
        have HBK := hid (HB4.out.trans (hbk.mono HB4.out.size))
        clear hbk
        go_wp2_with fail
        go_ret
        exact ⟨rfl, HBK.out⟩
      have HP := hid (HPS.out (by first | rfl | trivial))
      have HF : Hid (0 = 0) := hid rfl
      obtain ⟨e0, e1, e2⟩ := Tb.cells (HBT.out w4 HB4.out)
      obtain ⟨E, hE⟩ : ∃ E, judgeE ns n t.n t.f t.l = E := ⟨_, rfl⟩
      have hs1 := HBO.out.tk0
      have hs2 := HBO.out.rf0
      have hs3 := HBO.out.sum
      have HPU := hid (push_any w4 (HBO.out.hold.only0 HS4.out) (by omega) (by omega) (by omega) t.n t.l t.a t.cap t.f E (HTK.out w4 HB4.out) (by have := HP.out.1; omega) HP.out.2 hE)
      go_wp2_with fail
      refine HPU.out.mono ?_
      rintro e w5 ⟨rfl, ho5, l5, a5, cap5, hc5, hh5⟩
      have hk4 := HBO.out.blk.later HS4.out
      have HRW : Hid (∀ w', Below W.heap.size wr w' → TabV w' W.heap.size lx ax capx f) := hid (fun w' hb => HBO.out.tab.below hb)
      have hgb : g ≠ b6 := by omega
      have HS5 := hid ho5
      have HB5 : Hid (Below W.heap.size W w5) := hid (HB4.out.trans (ho5.below HB4.out.size (fun k hk => by simp at hk; omega)))
      have HK5 := hid (hk4.only ho5 (by simpa using hgb.symm))
      have HH5 := hid hh5
      have HC5 := hid hc5
      clear e0 e1 e2 HPU HFW hk4
      obtain ⟨e0, e1, e2⟩ := Tb.cells (HBT.out w5 HB5.out)
      have HR5 : Hid (Below W.heap.size wr w5) := hid ((HS4.out.mono HB.out.size).trans (ho5.below HB4.out.size (fun k hk => by simp at hk; omega)))
      have HTN := hid (fun w' (hb : Below W.heap.size W w') => (HTK.out W (Below.refl _ _)).below hb)
      have HRP : Hid (∀ w', Below w5.heap.size w5 w' → Calls Try.prog 35 #[.agg #[.slice na ns.length ncap, .int .i64 n, .slice ax lx.length capx, .string f, .int .i64 tk, .int .i64 rf], .agg #[.int .i64 t.n, .slice t.a t.l.length t.cap, .string t.f]] w' fun e w'' => ∃ (l2 : List Rl) (a2 : Option Addr) (cap2 : Nat), e = .returned (.tuple #[.agg #[.slice na ns.length ncap, .int .i64 (if E = 0 then t.n else n), .slice a2 l2.length cap2, .string (if E = 0 then t.f else f), .int .i64 (if E = 0 then tk + 1 else tk), .int .i64 (if E = 0 then rf else rf + 1)], .int .i64 E]) ∧ Below w5.heap.size w5 w'' ∧ TabV w'' W.heap.size l2 a2 cap2 (if E = 0 then t.f else f) ∧ l2.map Rl.core = (if E = 0 then t.l else lx).map Rl.core) := hid (fun w' hb =>
        rpush_q W.heap.size w5 w' hb (HB5.out.trans (hb.mono HB5.out.size)).size _ ns n lx ax capx f tk rf (HRW.out w' (HR5.out.trans (hb.mono HB5.out.size))) (HNM.out w' (HB5.out.trans (hb.mono HB5.out.size))) (by omega) (by omega) (by omega) t.n t.l t.a t.cap t.f E (HTN.out w' (HB5.out.trans (hb.mono HB5.out.size))) (by have := HP.out.1; omega) HP.out.2 hE)
      have HCX : Hid (l5.map Rl.core = (if E = 0 then t.l else lx).map Rl.core) := hid (by rw [HC5.out]; split; rfl; exact HBO.out.core)
      have HLP : Hid (l5.length ≤ 1000000 ∧ ∀ x ∈ l5, x.preds.length ≤ 1000000) := hid (by
        have e := HC5.out
        have hlen := congrArg List.length e
        rw [List.length_map, List.length_map] at hlen
        by_cases h : E = 0
        · rw [if_pos h] at e hlen
          exact ⟨by have := HP.out.1; omega, C14.psl_core e HP.out.2⟩
        · rw [if_neg h] at e hlen
          exact ⟨by have := HBO.out.len; omega, C14.psl_core e HBO.out.ps⟩)
      have HSUM : Hid ((if E = 0 then tk + 1 else tk) + (if E = 0 then rf else rf + 1) = (k : Int) + 1 ∧ 0 ≤ (if E = 0 then tk + 1 else tk) ∧ 0 ≤ (if E = 0 then rf else rf + 1)) := hid (by split <;> exact ⟨by omega, by omega, by omega⟩)
      have HRB : Hid (Calls Try.prog 35 #[.agg #[.slice na ns.length ncap, .int .i64 n, .slice ax lx.length capx, .string f, .int .i64 tk, .int .i64 rf], .agg #[.int .i64 t.n, .slice t.a t.l.length t.cap, .string t.f]] (w5.drew.alloc (.cells #[.slice none 0 0, .int .i64 0, .slice none 0 0, .string ByteArray.empty, .int .i64 0, .int .i64 0] 48)) fun e w'' => ∃ (l2 : List Rl) (a2 : Option Addr) (cap2 : Nat), e = .returned (.tuple #[.agg #[.slice na ns.length ncap, .int .i64 (if E = 0 then t.n else n), .slice a2 l2.length cap2, .string (if E = 0 then t.f else f), .int .i64 (if E = 0 then tk + 1 else tk), .int .i64 (if E = 0 then rf else rf + 1)], .int .i64 E]) ∧ Below w5.heap.size w5 w'' ∧ Blk w'' w5.heap.size #[.slice none 0 0, .int .i64 0, .slice none 0 0, .string ByteArray.empty, .int .i64 0, .int .i64 0] 48 ∧ TabV w'' W.heap.size l2 a2 cap2 (if E = 0 then t.f else f) ∧ l2.map Rl.core = (if E = 0 then t.l else lx).map Rl.core) := hid (by
        have hb : Below w5.heap.size w5 (w5.drew.alloc (.cells #[.slice none 0 0, .int .i64 0, .slice none 0 0, .string ByteArray.empty, .int .i64 0, .int .i64 0] 48)) := (Below.refl _ _).drew.alloc (Nat.le_refl _) _
        refine (rpush_q W.heap.size (w5.drew.alloc (.cells #[.slice none 0 0, .int .i64 0, .slice none 0 0, .string ByteArray.empty, .int .i64 0, .int .i64 0] 48)) _ (Below.refl _ _) (HB5.out.trans (hb.mono HB5.out.size)).size _ ns n lx ax capx f tk rf (HRW.out _ (HR5.out.trans (hb.mono HB5.out.size))) (HNM.out _ (HB5.out.trans (hb.mono HB5.out.size))) (by omega) (by omega) (by omega) t.n t.l t.a t.cap t.f E (HTN.out _ (HB5.out.trans (hb.mono HB5.out.size))) (by have := HP.out.1; omega) HP.out.2 hE).mono ?_
        rintro e w'' ⟨l2, a2, cap2, h1, h2, h3, h4⟩
        exact ⟨l2, a2, cap2, h1, hb.trans (h2.mono hb.size), (Blk.new w5.drew _ _).later h2, h3, h4⟩)
      clear hE hs1 hs2 hs3 hh5 hc5
      obtain ⟨n2, hn2⟩ : ∃ z, (if E = 0 then t.n else n) = z := ⟨_, rfl⟩
      obtain ⟨f2, hf2⟩ : ∃ z, (if E = 0 then t.f else f) = z := ⟨_, rfl⟩
      obtain ⟨tk2, htk2⟩ : ∃ z, (if E = 0 then tk + 1 else tk) = z := ⟨_, rfl⟩
      obtain ⟨rf2, hrf2⟩ : ∃ z, (if E = 0 then rf else rf + 1) = z := ⟨_, rfl⟩
      rw [hn2, hf2, htk2, hrf2] at HRP HRB HH5
      rw [htk2, hrf2] at HSUM
      clear hn2 hf2 htk2 hrf2
      generalize (if E = 0 then t.l else lx) = lt at HRP HRB HCX
      have HK5' := HK5.out
      have d0 : w5.cell? ⟨b6, 0, none⟩ = some (.slice na ns.length ncap) := HK5'.cell 0
      have d1 : w5.cell? ⟨b6, 1, none⟩ = some (.int .i64 n) := HK5'.cell 1
      have d2 : w5.cell? ⟨b6, 2, none⟩ = some (.slice ax lx.length capx) := HK5'.cell 2
      have d3 : w5.cell? ⟨b6, 3, none⟩ = some (.string f) := HK5'.cell 3
      have d4 : w5.cell? ⟨b6, 4, none⟩ = some (.int .i64 tk) := HK5'.cell 4
      have d5 : w5.cell? ⟨b6, 5, none⟩ = some (.int .i64 rf) := HK5'.cell 5
      have hb6l := HK5'.lt
      have KEEP : Hid (∀ w', Below w5.heap.size w5 w' → w'.cell? ⟨b6, 0, none⟩ = some (.slice na ns.length ncap) ∧ w'.cell? ⟨b6, 1, none⟩ = some (.int .i64 n) ∧ w'.cell? ⟨b6, 2, none⟩ = some (.slice ax lx.length capx) ∧ w'.cell? ⟨b6, 3, none⟩ = some (.string f) ∧ w'.cell? ⟨b6, 4, none⟩ = some (.int .i64 tk) ∧ w'.cell? ⟨b6, 5, none⟩ = some (.int .i64 rf) ∧ w'.cell? ⟨b, off + k * 3, none⟩ = some (.int .i64 t.n) ∧ w'.cell? ⟨b, off + k * 3 + 1, none⟩ = some (.slice t.a t.l.length t.cap) ∧ w'.cell? ⟨b, off + k * 3 + 2, none⟩ = some (.string t.f)) := hid (fun w' hb =>
        have hh := HK5.out.later hb
        have he := Tb.cells (HBT.out w' (HB5.out.trans (hb.mono HB5.out.size)))
        ⟨hh.cell 0, hh.cell 1, hh.cell 2, hh.cell 3, hh.cell 4, hh.cell 5, he.1, he.2.1, he.2.2⟩)
      clear HK5'
      go_wp2_with fail
      go_region_held3 (fun w' => w'.cell? ⟨b6, 0, none⟩ = some (.slice na ns.length ncap) ∧ w'.cell? ⟨b6, 1, none⟩ = some (.int .i64 n) ∧ w'.cell? ⟨b6, 2, none⟩ = some (.slice ax lx.length capx) ∧ w'.cell? ⟨b6, 3, none⟩ = some (.string f) ∧ w'.cell? ⟨b6, 4, none⟩ = some (.int .i64 tk) ∧ w'.cell? ⟨b6, 5, none⟩ = some (.int .i64 rf) ∧ w'.cell? ⟨b, off + k * 3, none⟩ = some (.int .i64 t.n) ∧ w'.cell? ⟨b, off + k * 3 + 1, none⟩ = some (.slice t.a t.l.length t.cap) ∧ w'.cell? ⟨b, off + k * 3 + 2, none⟩ = some (.string t.f)) ((refine KEEP.out _ ?_; (repeat' (first | assumption | (with_reducible exact Below.refl _ _) | (with_reducible refine Below.drew ?_) | (with_reducible refine Below.setCell ?_ (by simp) _) | (with_reducible refine Below.alloc ?_ (by first | exact Nat.le_refl _ | exact hB6.size) _)))))
        ((first
          | (go_at_call 35; refine (HRP.out _ (by first | (with_reducible exact Below.refl _ _) | (with_reducible exact (Below.refl _ _).drew))).mono ?_; rintro e w6 ⟨lx2, ax2, capx2, rfl, hB6, ht6, hc6⟩; have HT6 := hid ht6; have HC6 := hid hc6; clear ht6 hc6)
          | (go_at_call 35; refine HRB.out.mono ?_; rintro e w6 ⟨lx2, ax2, capx2, rfl, hB6, hk6, ht6, hc6⟩; have HT6 := hid ht6; have HC6 := hid hc6; have z0 := hk6.cell 0; have z1 := hk6.cell 1; have z2 := hk6.cell 2; have z3 := hk6.cell 3; have z4 := hk6.cell 4; have z5 := hk6.cell 5; have y0 := hk6.free 0; have y1 := hk6.free 1; have y2 := hk6.free 2; have y3 := hk6.free 3; have y4 := hk6.free 4; have y5 := hk6.free 5; have hz6 := hk6.lt; have HK6 := hid hk6; simp at z0 z1 z2 z3 z4 z5; clear ht6 hc6 hk6)))
      · go_upto_region 12 with fail
        refine wp_gen ?_
        intro w7 hw7
        have hb7 : Below w5.heap.size w5 w7 := by rw [hw7]; (repeat' (first | (with_reducible exact hB6) | (with_reducible refine Below.setCell ?_ (by simp) _) | (with_reducible refine Below.drew ?_) | (with_reducible refine Below.alloc ?_ hB6.size _)))
        have hk7 : Blk w7 (w6.heap.size) #[.slice na ns.length ncap, .int .i64 n2, .slice ax2 lx2.length capx2, .string f2, .int .i64 tk2, .int .i64 rf2] 48 := by rw [hw7]; first | exact Blk.new _ _ _ | exact (Blk.new _ _ _).drew
        have hx7 : Below W.heap.size w6 w7 := by rw [hw7]; (repeat' (first | (with_reducible refine Below.setCell ?_ (show W.heap.size ≤ w5.heap.size from HB5.out.size) _) | (with_reducible refine Below.drew ?_) | (with_reducible refine Below.alloc ?_ (Nat.le_trans HB5.out.size hB6.size) _) | (with_reducible exact Below.refl _ _)))
        clear hw7
        have HB7 := hid hb7
        have hq7 := HK5.out.later hb7
        have p0 : w7.cell? ⟨w6.heap.size, 0, none⟩ = some (.slice na ns.length ncap) := hk7.cell 0
        have p1 : w7.cell? ⟨w6.heap.size, 1, none⟩ = some (.int .i64 n2) := hk7.cell 1
        have p2 : w7.cell? ⟨w6.heap.size, 2, none⟩ = some (.slice ax2 lx2.length capx2) := hk7.cell 2
        have p3 : w7.cell? ⟨w6.heap.size, 3, none⟩ = some (.string f2) := hk7.cell 3
        have p4 : w7.cell? ⟨w6.heap.size, 4, none⟩ = some (.int .i64 tk2) := hk7.cell 4
        have p5 : w7.cell? ⟨w6.heap.size, 5, none⟩ = some (.int .i64 rf2) := hk7.cell 5
        have o0 := hq7.cell 0
        have o1 := hq7.cell 1
        have o2 := hq7.cell 2
        have o3 := hq7.cell 3
        have o4 := hq7.cell 4
        have o5 := hq7.cell 5
        simp at o0 o1 o2 o3 o4 o5
        have r0 := hq7.free 0
        have r1 := hq7.free 1
        have r2 := hq7.free 2
        have r3 := hq7.free 3
        have r4 := hq7.free 4
        have r5 := hq7.free 5
        have HQ7 := hid hq7
        have HT7 : Hid (TabV w7 W.heap.size lx2 ax2 capx2 f2) := hid (HT6.out.below hx7)
        clear hb7 hk7 hx7 hq7
        go_upto_region 13 with fail
        refine wp_gen ?_
        intro w8 hw8
        have ho8 : Only [b6] w7 w8 := by rw [hw8]; (repeat' (first | (with_reducible refine Only.setCell ?_ (by simp) _) | (with_reducible refine Only.drew ?_) | (with_reducible exact Only.refl _ _)))
        have hk8 : Blk w8 b6 #[.slice na ns.length ncap, .int .i64 n2, .slice ax2 lx2.length capx2, .string f2, .int .i64 tk2, .int .i64 rf2] 48 := by rw [hw8]; exact (((((HQ7.out.set 0 _).set 1 _).set 2 _).set 3 _).set 4 _).set 5 _
        clear hw8
        have HB8 : Hid (Below W.heap.size W w8) := hid (HB5.out.trans ((HB7.out.mono HB5.out.size).trans (ho8.below (Nat.le_trans HB5.out.size HB7.out.size) (fun k hk => by simp at hk; omega))))
        have HH8 := hid ((HH5.out.only0 HB7.out).only (S' := [b6]) (by simp) (by simpa using hgb) ho8)
        have HT8 : Hid (TabV w8 W.heap.size lx2 ax2 capx2 f2) := hid (HT7.out.below (ho8.below (Nat.le_trans HB5.out.size HB7.out.size) (fun k hk => by simp at hk; omega)))
        have HK8 := hid hk8
        have hg8 := hk8.lt
        clear ho8 hk8
        have KEEP8 : Hid (∀ w', Below w8.heap.size w8 w' → w'.cell? ⟨b6, 1, none⟩ = some (.int .i64 n2) ∧ w'.cell? ⟨b6, 2, none⟩ = some (.slice ax2 lx2.length capx2) ∧ w'.cell? ⟨b6, 3, none⟩ = some (.string f2) ∧ w'.cell? ⟨b6, 4, none⟩ = some (.int .i64 tk2) ∧ w'.cell? ⟨b6, 5, none⟩ = some (.int .i64 rf2)) := hid (fun w' hb => have hh := HK8.out.later hb; ⟨hh.cell 1, hh.cell 2, hh.cell 3, hh.cell 4, hh.cell 5⟩)
        have XV : Hid (∀ w', Below w8.heap.size w8 w' → Calls Try.prog 38 #[.pointer (some ⟨g, 0, none⟩)] w' fun e w'' => e = .returned (.int .i64 n2) ∧ w' = w'') := hid (fun w' hb => version_any g n2 w' ((HH8.out.only0 hb).blk.cell 4))
        have XT : Hid (∀ w', Below w8.heap.size w8 w' → Calls Try.prog 39 #[.pointer (some ⟨g, 0, none⟩)] w' fun e w'' => e = .returned (.int .i64 tk2) ∧ w' = w'') := hid (fun w' hb => taken_any g tk2 w' ((HH8.out.only0 hb).blk.cell 5))
        have XR : Hid (∀ w', Below w8.heap.size w8 w' → Calls Try.prog 40 #[.pointer (some ⟨g, 0, none⟩)] w' fun e w'' => e = .returned (.int .i64 rf2) ∧ w' = w'') := hid (fun w' hb => refused_any g rf2 w' ((HH8.out.only0 hb).blk.cell 6))
        have XG : Hid (∀ w', Below w8.heap.size w8 w' → Calls Try.prog 37 #[.pointer (some ⟨g, 0, none⟩)] w' (Ret (GetQ0 n2 l5 f2 w8))) := hid (fun w' hb => getq0_any w8 w' hb (HH8.out.only0 hb) HLP.out.1 HLP.out.2)
        have XS : Hid (∀ w' l8 a8 cap8, Below w8.heap.size w8 w' → l8.map Rl.core = l5.map Rl.core → TabV w' w'.heap.size l8 a8 cap8 f2 → Calls Try.prog 36 #[.agg #[.int .i64 n2, .slice a8 l8.length cap8, .string f2], .agg #[.int .i64 n2, .slice ax2 lx2.length capx2, .string f2]] w' fun e w'' => e = .returned (.bool true) ∧ Below w'.heap.size w' w'') := hid (fun w' l8 a8 cap8 hb hc ht => by
          have hl8 : l8.length ≤ 1000000 := by
            have := congrArg List.length hc
            rw [List.length_map, List.length_map] at this
            have := HLP.out.1
            omega
          exact same_core n2 l8 lx2 a8 ax2 cap8 capx2 f2 w' ht (TabV.up (HT8.out.below (hb.mono HB8.out.size)) (HB8.out.trans (hb.mono HB8.out.size)).size) hl8 (C14.psl_core hc HLP.out.2) (hc.trans (HCX.out.trans HC6.out.symm)))
        have q0 : (E != E) = false := by simp
        have q1 : (n2 != n2) = false := by simp
        have q2 : (tk2 != tk2) = false := by simp
        have q3 : (rf2 != rf2) = false := by simp
        have q4 : (E == E) = true := by simp
        have q5 : (n2 == n2) = true := by simp
        have q6 : (tk2 == tk2) = true := by simp
        have q7 : (rf2 == rf2) = true := by simp
        clear p0 o0 r0 p1 o1 r1 p2 o2 r2 p3 o3 r3 p4 o4 r4 p5 o5 r5
        go_wp2_with fail
        go_region_held3 (fun w' => w'.cell? ⟨b6, 1, none⟩ = some (.int .i64 n2) ∧ w'.cell? ⟨b6, 2, none⟩ = some (.slice ax2 lx2.length capx2) ∧ w'.cell? ⟨b6, 3, none⟩ = some (.string f2) ∧ w'.cell? ⟨b6, 4, none⟩ = some (.int .i64 tk2) ∧ w'.cell? ⟨b6, 5, none⟩ = some (.int .i64 rf2)) ((refine KEEP8.out _ ?_; (first | assumption | exact Below.refl _ _ | exact (Below.refl _ _).drew)))
          ((first
            | (go_at_call 38; refine (XV.out _ (by first | assumption | exact Below.refl _ _ | exact (Below.refl _ _).drew)).mono ?_; rintro e w' ⟨rfl, rfl⟩)
            | (go_at_call 39; refine (XT.out _ (by first | assumption | exact Below.refl _ _ | exact (Below.refl _ _).drew)).mono ?_; rintro e w' ⟨rfl, rfl⟩)
            | (go_at_call 40; refine (XR.out _ (by first | assumption | exact Below.refl _ _ | exact (Below.refl _ _).drew)).mono ?_; rintro e w' ⟨rfl, rfl⟩)
            | (go_at_call 37; refine (XG.out _ (by first | assumption | exact Below.refl _ _ | exact (Below.refl _ _).drew)).mono ?_; rintro e w9 ⟨v9, rfl, l8, a8, cap8, rfl, hB9, hc8, ht8⟩; have HC8 := hid hc8; have HT9 := hid ht8; clear hc8 ht8)
            | (go_at_call 36; refine (XS.out _ _ _ _ hB9 HC8.out HT9.out).mono ?_; rintro e wa ⟨rfl, hba⟩; have hBa : Below w8.heap.size w8 wa := hB9.trans (hba.mono hB9.size); clear hba)))
        all_goals
          have HFI : Hid (Both W g b6 v2 (.slice na ns.length ncap) ns (k + 1) n2 l5 a5 cap5 f2 tk2 rf2 lx2 ax2 capx2 wa) := hid ⟨HH8.out.only0 hBa, HK8.out.later hBa, HT8.out.below (hBa.mono HB8.out.size), HCX.out.trans HC6.out.symm, HSUM.out.2.1, HSUM.out.2.2, HSUM.out.1, HB8.out.trans (hBa.mono HB8.out.size), HLP.out.1, HLP.out.2⟩
          go_wp2_with fail
          go_roundw
          case rel => exact ⟨k + 1, by omega, by go_num, hid ⟨_, _, _, _, _, _, _, _, _, _, HFI.out⟩⟩
          case measure => simp [intOf]; omega
      · go_upto_region 12 with fail
        refine wp_gen ?_
        intro w7 hw7
        have hb7 : Below w5.heap.size w5 w7 := by rw [hw7]; (repeat' (first | (with_reducible exact hB6) | (with_reducible refine Below.setCell ?_ (by simp) _) | (with_reducible refine Below.drew ?_) | (with_reducible refine Below.alloc ?_ hB6.size _)))
        have hk7 : Blk w7 (w5.heap.size) #[.slice na ns.length ncap, .int .i64 n2, .slice ax2 lx2.length capx2, .string f2, .int .i64 tk2, .int .i64 rf2] 48 := by rw [hw7]; exact (((((HK6.out.set 0 _).set 1 _).set 2 _).set 3 _).set 4 _).set 5 _
        have hx7 : Below W.heap.size w6 w7 := by rw [hw7]; (repeat' (first | (with_reducible refine Below.setCell ?_ (show W.heap.size ≤ w5.heap.size from HB5.out.size) _) | (with_reducible refine Below.drew ?_) | (with_reducible refine Below.alloc ?_ (Nat.le_trans HB5.out.size hB6.size) _) | (with_reducible exact Below.refl _ _)))
        clear hw7
        have HB7 := hid hb7
        have hq7 := HK5.out.later hb7
        have p0 : w7.cell? ⟨w5.heap.size, 0, none⟩ = some (.slice na ns.length ncap) := hk7.cell 0
        have p1 : w7.cell? ⟨w5.heap.size, 1, none⟩ = some (.int .i64 n2) := hk7.cell 1
        have p2 : w7.cell? ⟨w5.heap.size, 2, none⟩ = some (.slice ax2 lx2.length capx2) := hk7.cell 2
        have p3 : w7.cell? ⟨w5.heap.size, 3, none⟩ = some (.string f2) := hk7.cell 3
        have p4 : w7.cell? ⟨w5.heap.size, 4, none⟩ = some (.int .i64 tk2) := hk7.cell 4
        have p5 : w7.cell? ⟨w5.heap.size, 5, none⟩ = some (.int .i64 rf2) := hk7.cell 5
        have o0 := hq7.cell 0
        have o1 := hq7.cell 1
        have o2 := hq7.cell 2
        have o3 := hq7.cell 3
        have o4 := hq7.cell 4
        have o5 := hq7.cell 5
        simp at o0 o1 o2 o3 o4 o5
        have r0 := hq7.free 0
        have r1 := hq7.free 1
        have r2 := hq7.free 2
        have r3 := hq7.free 3
        have r4 := hq7.free 4
        have r5 := hq7.free 5
        have HQ7 := hid hq7
        have HT7 : Hid (TabV w7 W.heap.size lx2 ax2 capx2 f2) := hid (HT6.out.below hx7)
        clear hb7 hk7 hx7 hq7
        go_upto_region 13 with fail
        refine wp_gen ?_
        intro w8 hw8
        have ho8 : Only [b6] w7 w8 := by rw [hw8]; (repeat' (first | (with_reducible refine Only.setCell ?_ (by simp) _) | (with_reducible refine Only.drew ?_) | (with_reducible exact Only.refl _ _)))
        have hk8 : Blk w8 b6 #[.slice na ns.length ncap, .int .i64 n2, .slice ax2 lx2.length capx2, .string f2, .int .i64 tk2, .int .i64 rf2] 48 := by rw [hw8]; exact (((((HQ7.out.set 0 _).set 1 _).set 2 _).set 3 _).set 4 _).set 5 _
        clear hw8
        have HB8 : Hid (Below W.heap.size W w8) := hid (HB5.out.trans ((HB7.out.mono HB5.out.size).trans (ho8.below (Nat.le_trans HB5.out.size HB7.out.size) (fun k hk => by simp at hk; omega))))
        have HH8 := hid ((HH5.out.only0 HB7.out).only (S' := [b6]) (by simp) (by simpa using hgb) ho8)
        have HT8 : Hid (TabV w8 W.heap.size lx2 ax2 capx2 f2) := hid (HT7.out.below (ho8.below (Nat.le_trans HB5.out.size HB7.out.size) (fun k hk => by simp at hk; omega)))
        have HK8 := hid hk8
        have hg8 := hk8.lt
        clear ho8 hk8
        have KEEP8 : Hid (∀ w', Below w8.heap.size w8 w' → w'.cell? ⟨b6, 1, none⟩ = some (.int .i64 n2) ∧ w'.cell? ⟨b6, 2, none⟩ = some (.slice ax2 lx2.length capx2) ∧ w'.cell? ⟨b6, 3, none⟩ = some (.string f2) ∧ w'.cell? ⟨b6, 4, none⟩ = some (.int .i64 tk2) ∧ w'.cell? ⟨b6, 5, none⟩ = some (.int .i64 rf2)) := hid (fun w' hb => have hh := HK8.out.later hb; ⟨hh.cell 1, hh.cell 2, hh.cell 3, hh.cell 4, hh.cell 5⟩)
        have XV : Hid (∀ w', Below w8.heap.size w8 w' → Calls Try.prog 38 #[.pointer (some ⟨g, 0, none⟩)] w' fun e w'' => e = .returned (.int .i64 n2) ∧ w' = w'') := hid (fun w' hb => version_any g n2 w' ((HH8.out.only0 hb).blk.cell 4))
        have XT : Hid (∀ w', Below w8.heap.size w8 w' → Calls Try.prog 39 #[.pointer (some ⟨g, 0, none⟩)] w' fun e w'' => e = .returned (.int .i64 tk2) ∧ w' = w'') := hid (fun w' hb => taken_any g tk2 w' ((HH8.out.only0 hb).blk.cell 5))
        have XR : Hid (∀ w', Below w8.heap.size w8 w' → Calls Try.prog 40 #[.pointer (some ⟨g, 0, none⟩)] w' fun e w'' => e = .returned (.int .i64 rf2) ∧ w' = w'') := hid (fun w' hb => refused_any g rf2 w' ((HH8.out.only0 hb).blk.cell 6))
        have XG : Hid (∀ w', Below w8.heap.size w8 w' → Calls Try.prog 37 #[.pointer (some ⟨g, 0, none⟩)] w' (Ret (GetQ0 n2 l5 f2 w8))) := hid (fun w' hb => getq0_any w8 w' hb (HH8.out.only0 hb) HLP.out.1 HLP.out.2)
        have XS : Hid (∀ w' l8 a8 cap8, Below w8.heap.size w8 w' → l8.map Rl.core = l5.map Rl.core → TabV w' w'.heap.size l8 a8 cap8 f2 → Calls Try.prog 36 #[.agg #[.int .i64 n2, .slice a8 l8.length cap8, .string f2], .agg #[.int .i64 n2, .slice ax2 lx2.length capx2, .string f2]] w' fun e w'' => e = .returned (.bool true) ∧ Below w'.heap.size w' w'') := hid (fun w' l8 a8 cap8 hb hc ht => by
          have hl8 : l8.length ≤ 1000000 := by
            have := congrArg List.length hc
            rw [List.length_map, List.length_map] at this
            have := HLP.out.1
            omega
          exact same_core n2 l8 lx2 a8 ax2 cap8 capx2 f2 w' ht (TabV.up (HT8.out.below (hb.mono HB8.out.size)) (HB8.out.trans (hb.mono HB8.out.size)).size) hl8 (C14.psl_core hc HLP.out.2) (hc.trans (HCX.out.trans HC6.out.symm)))
        have q0 : (E != E) = false := by simp
        have q1 : (n2 != n2) = false := by simp
        have q2 : (tk2 != tk2) = false := by simp
        have q3 : (rf2 != rf2) = false := by simp
        have q4 : (E == E) = true := by simp
        have q5 : (n2 == n2) = true := by simp
        have q6 : (tk2 == tk2) = true := by simp
        have q7 : (rf2 == rf2) = true := by simp
        clear p0 o0 r0 p1 o1 r1 p2 o2 r2 p3 o3 r3 p4 o4 r4 p5 o5 r5
        go_wp2_with fail
        go_region_held3 (fun w' => w'.cell? ⟨b6, 1, none⟩ = some (.int .i64 n2) ∧ w'.cell? ⟨b6, 2, none⟩ = some (.slice ax2 lx2.length capx2) ∧ w'.cell? ⟨b6, 3, none⟩ = some (.string f2) ∧ w'.cell? ⟨b6, 4, none⟩ = some (.int .i64 tk2) ∧ w'.cell? ⟨b6, 5, none⟩ = some (.int .i64 rf2)) ((refine KEEP8.out _ ?_; (first | assumption | exact Below.refl _ _ | exact (Below.refl _ _).drew)))
          ((first
            | (go_at_call 38; refine (XV.out _ (by first | assumption | exact Below.refl _ _ | exact (Below.refl _ _).drew)).mono ?_; rintro e w' ⟨rfl, rfl⟩)
            | (go_at_call 39; refine (XT.out _ (by first | assumption | exact Below.refl _ _ | exact (Below.refl _ _).drew)).mono ?_; rintro e w' ⟨rfl, rfl⟩)
            | (go_at_call 40; refine (XR.out _ (by first | assumption | exact Below.refl _ _ | exact (Below.refl _ _).drew)).mono ?_; rintro e w' ⟨rfl, rfl⟩)
            | (go_at_call 37; refine (XG.out _ (by first | assumption | exact Below.refl _ _ | exact (Below.refl _ _).drew)).mono ?_; rintro e w9 ⟨v9, rfl, l8, a8, cap8, rfl, hB9, hc8, ht8⟩; have HC8 := hid hc8; have HT9 := hid ht8; clear hc8 ht8)
            | (go_at_call 36; refine (XS.out _ _ _ _ hB9 HC8.out HT9.out).mono ?_; rintro e wa ⟨rfl, hba⟩; have hBa : Below w8.heap.size w8 wa := hB9.trans (hba.mono hB9.size); clear hba)))
        all_goals
          have HFI : Hid (Both W g b6 v2 (.slice na ns.length ncap) ns (k + 1) n2 l5 a5 cap5 f2 tk2 rf2 lx2 ax2 capx2 wa) := hid ⟨HH8.out.only0 hBa, HK8.out.later hBa, HT8.out.below (hBa.mono HB8.out.size), HCX.out.trans HC6.out.symm, HSUM.out.2.1, HSUM.out.2.2, HSUM.out.1, HB8.out.trans (hBa.mono HB8.out.size), HLP.out.1, HLP.out.2⟩
          go_wp2_with fail
          go_roundw
          case rel => exact ⟨k + 1, by omega, by go_num, hid ⟨_, _, _, _, _, _, _, _, _, _, HFI.out⟩⟩
          case measure => simp [intOf]; omega
    · obtain rfl : k = ts.length := by omega
      go_wp2_with fail
      refine (HK.out _).mono ?_
      rintro e wk ⟨rfl, hbk⟩
      have HBK := hid (HB.out.trans (hbk.mono HB.out.size))
      clear hbk
      go_wp2_with fail
      go_ret
      exact ⟨rfl, HBK.out⟩
end C17
end Go.Proofs.Ytmmmaldpalhjeaa
