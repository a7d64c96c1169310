/- Walks of layer 30 (store): traces copied; no condition. -/
import Derived.Test.YtdamnbldimompaaF30
namespace Go.Peri
open Go.RowKit
theorem Kq.flat_set5 (x : Kq) : ∀ (l : List Kq) (i : Nat), i < l.length → (((((l.flatMap Kq.enc).set (i * 5) (.int .u64 x.hi)).set (i * 5 + 1) (.int .u64 x.lo)).set (i * 5 + 2) (.slice x.pa x.sp.length x.pcap)).set (i * 5 + 3) (.bool x.spilled)).set (i * 5 + 4) (.bool x.clash) = (l.set i x).flatMap Kq.enc
  | y :: l, 0, _ => by simp [Kq.enc]
  | y :: l, i + 1, h => by
    have ih := Kq.flat_set5 x l i (by simpa using h)
    rw [List.set_cons_succ, List.flatMap_cons, List.flatMap_cons, ← ih, show (i + 1) * 5 = i * 5 + 5 by omega]
    simp [Kq.enc]
end Go.Peri
namespace Go.Proofs.Ytdamnbldimompaa
open Go.RowKit Go.Peri
open Gen (flat_set set_mid get_mid map_take_snoc owns_at owns_num owns_le owns_below owns_form)
namespace C30
/-- Five cells of an element stored. -/
def put5 (w : World) (g o : Nat) (x : Kq) : World := ((((w.setCell ⟨g, o, none⟩ (.int .u64 x.hi)).setCell ⟨g, o + 1, none⟩ (.int .u64 x.lo)).setCell ⟨g, o + 2, none⟩ (.slice x.pa x.sp.length x.pcap)).setCell ⟨g, o + 3, none⟩ (.bool x.spilled)).setCell ⟨g, o + 4, none⟩ (.bool x.clash)
theorem put5_only (w : World) (g o : Nat) (x : Kq) : Only [g] w (put5 w g o x) := by
  unfold put5
  iterate 5 (refine Only.setCell ?_ (by simp) _)
  exact Only.refl _ _
theorem put5_owns {w : World} {base g cap n : Nat} {l : List Kq} (h : w.ownsRow base 34 5 (.slice (some ⟨g, 0, none⟩) n cap) n (l.flatMap Kq.enc)) (i : Nat) (hi : i < l.length) (x : Kq) : (put5 w g (i * 5) x).ownsRow base 34 5 (.slice (some ⟨g, 0, none⟩) n cap) n ((l.set i x).flatMap Kq.enc) := by
  rw [← Kq.flat_set5 x l i hi]
  exact (((((h.stored (i * 5) _).1.stored (i * 5 + 1) _).1.stored (i * 5 + 2) _).1.stored (i * 5 + 3) _).1.stored (i * 5 + 4) _).1
/-- Traces copied: a row of their own, the spans of each in a row of their own, each another one. -/
structure Cop (base : Nat) (w' : World) (v : Value) (l1 : List Kq) : Prop where
  own : ∀ x ∈ l1, OwnK base w' x
  far : ∀ x ∈ l1, Disj (kBlk x) (blocks v)
  apart : l1.Pairwise (fun x y => Disj (kBlk x) (kBlk y))
def CopQ (W : World) (l : List Kq) (v : Value) (w' : World) : Prop :=
  ∃ l1 : List Kq, l1.map Kq.core = l.map Kq.core ∧ Below W.heap.size W w' ∧ w'.ownsRow W.heap.size 34 5 v l.length (l1.flatMap Kq.enc) ∧ Cop W.heap.size w' v l1
theorem pairwise_snoc {α : Type} {R : α → α → Prop} {l : List α} {x : α} (h : l.Pairwise R) (hx : ∀ y ∈ l, R y x) : (l ++ [x]).Pairwise R := by
  rw [List.pairwise_append]
  exact ⟨h, by simp, fun a ha b hb => by rw [List.mem_singleton.1 hb]; exact hx a ha⟩
set_option maxRecDepth 100000 in
set_option maxHeartbeats 2000000 in
theorem copied_any {p : Nat → Prop} (v : Value) (l : List Kq) (W : World) (h : RowsOf p Kq.enc 5 W v l) (hp : ∀ b, p b → b < W.heap.size) (hl : l.length ≤ 1000000) (ha : ∀ x ∈ l, x.At (· < W.heap.size) W) (hps : ∀ x ∈ l, x.sp.length ≤ 1000000) :
    Calls Try.prog 22 #[v] W (Ret (CopQ W l)) := by
  have HC := hid (kclone_any v l W h hp hl)
  have HA := hid ha
  have HPS := hid hps
  obtain ⟨a, cap, rfl⟩ : ∃ a cap, v = .slice a l.length cap := by
    obtain ⟨a, cap, e, _⟩ := h
    exact ⟨a, cap, e⟩
  clear h ha hps hp
  go_enter Try.func22, Try.ntmps22
  go_wp2_with fail
  refine HC.out.mono ?_
  rintro e w1 ⟨a1, cap1, rfl, hb1, hown⟩
  have HB1 := hid hb1
  have HO := hid hown.out
  clear hown hb1 HC
  go_wp2_with fail
  go_loopw [10] (fun i wr => ∃ k : Nat, k ≤ l.length ∧ i = .int .i64 k ∧ Hid (∃ l1 : List Kq, l1.length = k ∧ l1.map Kq.core = (l.take k).map Kq.core ∧ Below W.heap.size W wr ∧ wr.ownsRow W.heap.size 34 5 (.slice a1 l.length cap1) l.length ((l1 ++ l.drop k).flatMap Kq.enc) ∧ Cop W.heap.size wr (.slice a1 l.length cap1) l1)) (fun i _ => l.length - (intOf i).toNat)
  case atStart => exact ⟨0, Nat.zero_le _, rfl, hid ⟨[], rfl, rfl, HB1.out, HO.out, ⟨by simp, by simp, List.Pairwise.nil⟩⟩⟩
  case round =>
    obtain ⟨k, hk, rfl, hh⟩ := hrel
    by_cases hk2 : k < l.length
    · obtain ⟨l1, hl1, hc1, hb, hown, hat⟩ := hh.out
      clear hh
      obtain ⟨x, hx⟩ : ∃ x, l[k] = x := ⟨_, rfl⟩
      have hm : ∀ h : k < (l1 ++ l.drop k).length, (l1 ++ l.drop k)[k] = x := fun h => (get_mid l1 l k hl1 hk2 h).trans hx
      have hxa : x.At (· < W.heap.size) wr := (HA.out x (by rw [← hx]; exact List.getElem_mem hk2)).below hb (fun _ h => h)
      have hxl := HPS.out x (by rw [← hx]; exact List.getElem_mem hk2)
      obtain ⟨g, cap2, e2, hg1, hg2⟩ := owns_at hown (by omega)
      cases e2
      obtain ⟨cc0, cc1, cc2, cc3, cc4⟩ := Kq.cells (y := x) (w := wr) (b := g) (o := k * 5) (fun j u hj => by
        have hj2 : j < 5 := (List.getElem?_eq_some_iff.1 hj).1
        have hlen : (l1 ++ l.drop k).length = l.length := by rw [List.length_append, List.length_drop, hl1]; omega
        rw [hown.cellAt (k * 5 + j) (by omega), flat_get Kq.enc_length _ k (by omega) j hj2]
        rw [hm]
        exact hj)
      have HB := hid hb
      have HOW := hid hown
      have HAT := hid hat
      have HL1 := hid hl1
      have HC1 := hid hc1
      have HX := hid hx
      have HXA := hid hxa
      clear hm
      clear hb hown hat hc1 hx hxa
      clear hl1
      obtain ⟨B1, hB1⟩ : ∃ b, b = wr.alloc (.cells #[.int .u64 x.hi, .int .u64 x.lo, .slice x.pa x.sp.length x.pcap, .bool x.spilled, .bool x.clash] 34) := ⟨_, rfl⟩
      have hbb : Below wr.heap.size wr B1 := by rw [hB1]; go_grown
      have HPC := hid (own_any (p := (· < W.heap.size)) x B1 (HXA.out.below hbb (fun b hb => Nat.lt_of_lt_of_le hb HB.out.size)) (fun b hb => Nat.lt_of_lt_of_le hb (Nat.le_trans HB.out.size hbb.size)) hxl)
      have HBB := hid hbb
      have HE1 := hid hB1
      clear hbb
      rw [hB1] at HPC
      clear hB1
      go_wp2_with fail
      refine HPC.out.mono ?_
      rintro e w3 ⟨v3, rfl, pa, pcap, rfl, hb3, hown3⟩
      rw [← HE1.out] at hb3 hown3
      have HB3 := hid (HBB.out.trans (hb3.mono HBB.out.size))
      have HO3 := hid hown3
      have hown4 := owns_below HOW.out HB3.out
      have HO4 := hid hown4
      have hsz := hb3.size
      have HSZ : wr.heap.size < B1.heap.size := by rw [HE1.out]; simp
      have hg3 : g < w3.heap.size := by omega
      have hlen : (l1 ++ l.drop k).length = l.length := by rw [List.length_append, List.length_drop, HL1.out]; omega
      have hcell : ∀ j u, j < 5 → (Kq.enc x)[j]? = some u → w3.cell? ⟨g, k * 5 + j, none⟩ = some u := fun j u hj2 hj => by
        rw [hown4.cellAt (k * 5 + j) (by omega), flat_get Kq.enc_length _ k (by omega) j hj2, get_mid l1 l k HL1.out hk2 (by omega), HX.out]
        exact hj
      have dd0 := hcell 0 _ (by decide) rfl
      have dd1 := hcell 1 _ (by decide) rfl
      have dd2 := hcell 2 _ (by decide) rfl
      have dd3 := hcell 3 _ (by decide) rfl
      have dd4 := hcell 4 _ (by decide) rfl
      rw [Nat.add_zero] at dd0
      have hfz : ∀ j, w3.frozen? ⟨g, j, none⟩ = false := fun j => hown4.frozenAt _
      have HR : Hid (∃ l2 : List Kq, l2.length = k + 1 ∧ l2.map Kq.core = (l.take (k + 1)).map Kq.core ∧ Below W.heap.size W (put5 w3 g (k * 5) { x with pa := pa, pcap := pcap }) ∧ (put5 w3 g (k * 5) { x with pa := pa, pcap := pcap }).ownsRow W.heap.size 34 5 (.slice (some ⟨g, 0, none⟩) l.length cap1) l.length ((l2 ++ l.drop (k + 1)).flatMap Kq.enc) ∧ Cop W.heap.size (put5 w3 g (k * 5) { x with pa := pa, pcap := pcap }) (.slice (some ⟨g, 0, none⟩) l.length cap1) l2) := by
        have hon3 := put5_only w3 g (k * 5) { x with pa := pa, pcap := pcap }
        have hon : Only [g] wr (put5 w3 g (k * 5) { x with pa := pa, pcap := pcap }) := (show Only [g] wr w3 from Only.of_below HB3.out).trans hon3
        have hbl : blocks (.slice (some ⟨g, 0, none⟩) l.length cap1) = [g] := rfl
        have hgw : ∀ b, b ∈ kBlk { x with pa := pa, pcap := pcap } → B1.heap.size ≤ b ∧ b < w3.heap.size := owns_bd HO3.out
        refine ⟨l1 ++ [{ x with pa := pa, pcap := pcap }], by simp [HL1.out], ?_, ?_, ?_, ?_, ?_, ?_⟩
        · exact map_take_snoc Kq.core l1 l k hk2 _ HC1.out (by rw [HX.out]; rfl)
        · exact HB.out.trans (hon.below HB.out.size (fun b hb => by simp at hb; omega))
        · have hst := put5_owns hown4 k (by omega) { x with pa := pa, pcap := pcap }
          rw [set_mid l1 l k HL1.out hk2] at hst
          exact hst
        · intro y hy
          rcases List.mem_append.1 hy with hy | hy
          · exact (HAT.out.own y hy).keep hon (by rw [← hbl]; exact HAT.out.far y hy)
          · obtain rfl : y = { x with pa := pa, pcap := pcap } := by simpa using hy
            refine (OwnK.le (show OwnK B1.heap.size w3 { x with pa := pa, pcap := pcap } from HO3.out) (by have := HB.out.size; omega)).keep hon3 (fun b hb => ?_)
            have := hgw b hb
            simp; omega
        · intro y hy
          rcases List.mem_append.1 hy with hy | hy
          · exact HAT.out.far y hy
          · obtain rfl : y = { x with pa := pa, pcap := pcap } := by simpa using hy
            rw [hbl]
            intro b hb
            have := hgw b hb
            simp; omega
        · refine pairwise_snoc HAT.out.apart (fun y hy b hb hb2 => ?_)
          have h1 := ((HAT.out.own y hy).bd b hb).2
          have h2 := (hgw b hb2).1
          omega
      clear hb3 hown3 hown4 HPC cc0 cc1 cc2 cc3 cc4 hcell
      unfold put5 at HR
      go_wp2_with fail
      go_roundw
      case rel => exact ⟨k + 1, by omega, by go_num, HR⟩
      case measure => simp [intOf]; omega
    · obtain rfl : k = l.length := by omega
      obtain ⟨l1, hl1, hc1, hb, hown, hat⟩ := hh.out
      rw [List.take_length] at hc1
      rw [List.drop_length, List.append_nil] at hown
      have HR := hid (show CopQ W l (.slice a1 l.length cap1) wr from ⟨l1, hc1, hb, hown, hat⟩)
      clear hl1 hc1 hb hown hat hh
      go_wp2_with fail
      go_ret
      exact ⟨_, rfl, HR.out⟩
end C30
end Go.Proofs.Ytdamnbldimompaa
