/- Walks of layer 26 (flight): batches under way cloned, owned, copied; no condition. Walks of layer 26 (flight): batches of a number taken out; how many spans; no condition. Walks of layer 26 (flight): Ack; no condition. Walks of layer 26 (flight): batches alike, few and small; no condition. Walks of layer 26 (flight): clock, due, what is sent first; no condition. Walks of layer 26 (flight): the closure of Step; no condition. Walks of layer 26 (flight): the closure of Step, what is given up; no condition. -/
import Derived.Test.YtcohcanakicmpaaMg03
import Derived.Test.YtcohcanakicmpaaMg04
import Derived.Test.YtcohcanakicmpaaMg02
import Derived.Deep.Cut
import Derived.BigQuiet
import Derived.Deep.RegionHeld3
namespace Go.Peri
open Go.RowKit
theorem blk3' {w : World} {g t : Nat} {a0 a1 a2 : Value} (h : Blk w g #[a0, a1, a2] t) :
    w.cell? ⟨g, 0, none⟩ = some a0 ∧ w.cell? ⟨g, 1, none⟩ = some a1 ∧ w.cell? ⟨g, 2, none⟩ = some a2 ∧ ∀ i, w.frozen? ⟨g, i, none⟩ = false :=
  ⟨h.cell 0, h.cell 1, h.cell 2, h.free⟩
theorem blk5' {w : World} {g t : Nat} {a0 a1 a2 a3 a4 : Value} (h : Blk w g #[a0, a1, a2, a3, a4] t) :
    w.cell? ⟨g, 0, none⟩ = some a0 ∧ w.cell? ⟨g, 1, none⟩ = some a1 ∧ w.cell? ⟨g, 2, none⟩ = some a2 ∧ w.cell? ⟨g, 3, none⟩ = some a3 ∧ w.cell? ⟨g, 4, none⟩ = some a4 ∧ ∀ i, w.frozen? ⟨g, i, none⟩ = false :=
  ⟨h.cell 0, h.cell 1, h.cell 2, h.cell 3, h.cell 4, h.free⟩
/-- The batch of an element stored: three cells. -/
theorem Sq.flat_set3 (x : Sq) : ∀ (l : List Sq) (i : Nat) (hi : i < l.length), l[i].tries = x.tries → l[i].due = x.due → (((l.flatMap Sq.enc).set (i * 5) (.int .i64 x.node)).set (i * 5 + 1) (.int .i64 x.seq)).set (i * 5 + 2) (.slice x.pa x.sp.length x.pcap) = (l.set i x).flatMap Sq.enc
  | y :: l, 0, _, h1, h2 => by
    simp only [List.getElem_cons_zero] at h1 h2
    simp [Sq.enc, h1, h2]
  | y :: l, i + 1, h, h1, h2 => by
    have ih := Sq.flat_set3 x l i (by simpa using h) (by simpa using h1) (by simpa using h2)
    rw [List.set_cons_succ, List.flatMap_cons, List.flatMap_cons, ← ih, show (i + 1) * 5 = i * 5 + 5 by omega]
    simp [Sq.enc]
end Go.Peri
namespace Go.Proofs.Ytcohcanakicmpaa
open Go.RowKit Go.Peri
open Gen (flat_set set_mid get_mid map_take_snoc owns_at owns_num owns_le owns_below owns_form)
namespace C26
open C30 (elemS sclone_any ssame_any addr_add)
theorem elemQ : Elem Try.prog 52 93 5 56 := Elem.mk' (z := .agg #[.int .i64 0, .int .i64 0, .slice none 0 0, .int .i64 0, .int .i64 0]) Try.underlying52 (by kernel_rfl) rfl (by decide)
set_option maxRecDepth 100000 in
theorem qclone_any {p : Nat → Prop} (v : Value) (l : List Sq) (W : World) (h : RowsOf p Sq.enc 5 W v l) (hp : ∀ b, p b → b < W.heap.size) (hl : l.length ≤ 1000000) :
    Calls Try.prog 38 #[v] W fun e w' => ∃ a cap, e = .returned (.slice a l.length cap) ∧ Below W.heap.size W w' ∧ Hid (w'.ownsRow W.heap.size 93 5 (.slice a l.length cap) l.length (l.flatMap Sq.enc)) := by
  have qnil : ∀ (w : World) (a : Option Addr) (n c : Nat), (binOp .eql 52 (.slice a n c) (.slice none 0 0)).run Try.prog w = .ok (.bool a.isNone) w := fun w a n c => Lib.run_eql_slice_nil w 52 93 a n c 0 0 Try.underlying52
  have HV := hid h
  have HP := hid hp
  obtain ⟨a, cap, rfl, hlc, hcm, hnn, _⟩ := h
  clear hp
  cases a with
  | none =>
    have hc0 := hnn rfl
    subst hc0
    have hl0 : l.length = 0 := by omega
    have hln : l = [] := List.length_eq_zero_iff.1 hl0
    subst hln
    go_enter Try.func38, Try.ntmps38
    go_wp2_with fail
    go_ret
    exact ⟨none, 0, rfl, Below.refl _ _, World.ownsRow_nil _ _ _ _⟩
  | some ad =>
    have HC : Hid (Cellz p 5 (W.alloc (.cells #[] 93)) (.slice (some ad) l.length cap) l.length (l.flatMap Sq.enc)) := (HV.out.below (B := W.heap.size) ((Below.refl _ W).alloc (Nat.le_refl _) _) HP.out).cellz Sq.enc_length
    go_enter Try.func38, Try.ntmps38
    go_wp2_with (at_builtin; refine wpList_pushCells elemQ rfl _ _ rfl W.heap.size _ 0 [] rfl (World.ownsRow_made W #[] 0 (Nat.le_refl _) (Nat.zero_le _) (by simp)) rfl HC.out (Sq.one l) ?_ ?_ ?_ ?_)
    · unfold maxLen; omega
    · omega
    · simp
    intro v1 w1 hown hb
    have HB : Hid (Below W.heap.size W w1) := ((Below.refl _ W).alloc (Nat.le_refl _) _).trans hb
    have hown2 : w1.ownsRow W.heap.size 93 5 v1 l.length (l.flatMap Sq.enc) := by simpa using hown
    have hr : RowsOf (fun b => W.heap.size ≤ b ∧ b < w1.heap.size) Sq.enc 5 w1 v1 l := RowsOf.of_owns Sq.enc_length hown2
    have HR := hid hown2
    clear hown2
    obtain ⟨a1, cap1, rfl, _⟩ := hr
    clear hown hb
    go_wp2_with fail
    go_ret
    exact ⟨a1, cap1, rfl, HB.out, HR.out⟩
/-- The spans of a batch lie in a row of their own. -/
def OwnK (base : Nat) (w : World) (k : Sq) : Prop := w.ownsRow base 37 11 (.slice k.pa k.sp.length k.pcap) k.sp.length (k.sp.flatMap Sp.enc)
def kBlk (k : Sq) : List Nat := blocks (.slice k.pa k.sp.length k.pcap)
theorem OwnK.keep {S : List Nat} {base : Nat} {w w' : World} {k : Sq} (h : OwnK base w k) (ho : Only S w w') (hs : Disj (kBlk k) S) : OwnK base w' k := owns_keep h ho hs
theorem OwnK.bd {base : Nat} {w : World} {k : Sq} (h : OwnK base w k) : ∀ b, b ∈ kBlk k → base ≤ b ∧ b < w.heap.size := owns_bd h
theorem OwnK.le {base base' : Nat} {w : World} {k : Sq} (h : OwnK base w k) (hb : base' ≤ base) : OwnK base' w k := owns_le h hb
def OwnQ (W : World) (k : Sq) (v : Value) (w' : World) : Prop := ∃ pa pcap, v = .agg #[.int .i64 k.node, .int .i64 k.seq, .slice pa k.sp.length pcap] ∧ Below W.heap.size W w' ∧ OwnK W.heap.size w' { k with pa := pa, pcap := pcap }
set_option maxRecDepth 100000 in
set_option maxHeartbeats 2000000 in
theorem own_any {p : Nat → Prop} (k : Sq) (W : World) (h : k.At p W) (hp : ∀ b, p b → b < W.heap.size) (hl : k.sp.length ≤ 1000000) :
    Calls Try.prog 78 #[.agg #[.int .i64 k.node, .int .i64 k.seq, .slice k.pa k.sp.length k.pcap]] W (Ret (OwnQ W k)) := by
  have HC := hid (fun W' (hb : Below W.heap.size W W') => sclone_any (p := p) (.slice k.pa k.sp.length k.pcap) k.sp W' (RowsOf.below h hb hp) (fun b hb' => Nat.lt_of_lt_of_le (hp b hb') hb.size) hl)
  clear h hp
  go_enter Try.func78, Try.ntmps78
  go_wp2_with fail
  refine (HC.out _ (((Below.refl _ W).alloc (Nat.le_refl _) _).alloc (by simp) _)).mono ?_
  rintro e w1 ⟨pa, pcap, rfl, hb1, hown⟩
  obtain ⟨z0, z1, z2, zf⟩ := blk3' (((Blk.new W _ _).alloc _).later hb1)
  obtain ⟨y0, y1, y2, yf⟩ := blk3' ((Blk.new' (n := W.heap.size + 1) (W.alloc (.cells #[.int .i64 k.node, .int .i64 k.seq, .slice k.pa k.sp.length k.pcap] 45)) #[.int .i64 0, .int .i64 0, .slice none 0 0] 45 (by simp)).later hb1)
  have HB1 : Hid (Below W.heap.size W w1) := (((Below.refl _ W).alloc (Nat.le_refl _) _).alloc (by simp) _).trans (hb1.mono (by simp; omega))
  have HO : Hid (w1.ownsRow (W.heap.size + 2) 37 11 (.slice pa k.sp.length pcap) k.sp.length (k.sp.flatMap Sp.enc)) := hid (by have := hown.out; simpa using this)
  have hg : W.heap.size + 1 < w1.heap.size := by have := hb1.size; simp at this; omega
  have hg0 : W.heap.size < w1.heap.size := by omega
  have HON := hid (fun w' (ho : Only [W.heap.size, W.heap.size + 1] w1 w') => (show OwnQ W k (.agg #[.int .i64 k.node, .int .i64 k.seq, .slice pa k.sp.length pcap]) w' from ⟨pa, pcap, rfl, HB1.out.trans (ho.below HB1.out.size (fun b hb => by simp at hb; omega)), owns_le (owns_keep HO.out ho (fun b hb => by have := (owns_bd HO.out b hb).1; simp; omega)) (by omega)⟩))
  clear hb1 hown HC
  go_wp2_with fail
  refine bodyPost_ret (by simp [results, Try.results78, go_sem, y0, y1, y2]; try rfl) rfl ?_
  refine ⟨_, rfl, HON.out _ ?_⟩
  iterate 4 (refine Only.setCell ?_ (by simp) _)
  exact Only.refl _ _
/-- A batch stored. -/
def put3 (w : World) (g o : Nat) (x : Sq) : World := ((w.setCell ⟨g, o, none⟩ (.int .i64 x.node)).setCell ⟨g, o + 1, none⟩ (.int .i64 x.seq)).setCell ⟨g, o + 2, none⟩ (.slice x.pa x.sp.length x.pcap)
theorem put3_only (w : World) (g o : Nat) (x : Sq) : Only [g] w (put3 w g o x) := by
  unfold put3
  iterate 3 (refine Only.setCell ?_ (by simp) _)
  exact Only.refl _ _
theorem put3_owns {w : World} {base g cap n : Nat} {l : List Sq} (h : w.ownsRow base 93 5 (.slice (some ⟨g, 0, none⟩) n cap) n (l.flatMap Sq.enc)) (i : Nat) (hi : i < l.length) (x : Sq) (h1 : l[i].tries = x.tries) (h2 : l[i].due = x.due) : (put3 w g (i * 5) x).ownsRow base 93 5 (.slice (some ⟨g, 0, none⟩) n cap) n ((l.set i x).flatMap Sq.enc) := by
  rw [← Sq.flat_set3 x l i hi h1 h2]
  exact (((h.stored (i * 5) _).1.stored (i * 5 + 1) _).1.stored (i * 5 + 2) _).1
/-- Batches copied: a row of their own, the spans of each in a row of their own. -/
structure Cop (base : Nat) (w' : World) (v : Value) (l1 : List Sq) : Prop where
  own : ∀ x ∈ l1, OwnK base w' x
  far : ∀ x ∈ l1, Disj (kBlk x) (blocks v)
def CopQ (W : World) (l : List Sq) (v : Value) (w' : World) : Prop :=
  ∃ l1 : List Sq, l1.map Sq.core = l.map Sq.core ∧ Below W.heap.size W w' ∧ w'.ownsRow W.heap.size 93 5 v l.length (l1.flatMap Sq.enc) ∧ Cop W.heap.size w' v l1
set_option maxRecDepth 100000 in
set_option maxHeartbeats 2000000 in
theorem copied_any {p : Nat → Prop} (v : Value) (l : List Sq) (W : World) (h : RowsOf p Sq.enc 5 W v l) (hp : ∀ b, p b → b < W.heap.size) (hl : l.length ≤ 1000000) (ha : ∀ x ∈ l, x.At (· < W.heap.size) W) (hps : ∀ x ∈ l, x.sp.length ≤ 1000000) :
    Calls Try.prog 62 #[v] W (Ret (CopQ W l)) := by
  have HC := hid (qclone_any v l W h hp hl)
  have HA := hid ha
  have HPS := hid hps
  obtain ⟨a, cap, rfl⟩ : ∃ a cap, v = .slice a l.length cap := by
    obtain ⟨a, cap, e, _⟩ := h
    exact ⟨a, cap, e⟩
  clear h ha hps hp
  go_enter Try.func62, Try.ntmps62
  go_wp2_with fail
  refine HC.out.mono ?_
  rintro e w1 ⟨a1, cap1, rfl, hb1, hown⟩
  have HB1 := hid hb1
  have HO := hid hown.out
  clear hown hb1 HC
  go_wp2_with fail
  go_loopw [10] (fun i wr => ∃ k : Nat, k ≤ l.length ∧ i = .int .i64 k ∧ Hid (∃ l1 : List Sq, l1.length = k ∧ l1.map Sq.core = (l.take k).map Sq.core ∧ Below W.heap.size W wr ∧ wr.ownsRow W.heap.size 93 5 (.slice a1 l.length cap1) l.length ((l1 ++ l.drop k).flatMap Sq.enc) ∧ Cop W.heap.size wr (.slice a1 l.length cap1) l1)) (fun i _ => l.length - (intOf i).toNat)
  case atStart => exact ⟨0, Nat.zero_le _, rfl, hid ⟨[], rfl, rfl, HB1.out, HO.out, ⟨by simp, by simp⟩⟩⟩
  case round =>
    obtain ⟨k, hk, rfl, hh⟩ := hrel
    by_cases hk2 : k < l.length
    · obtain ⟨l1, hl1, hc1, hb, hown, hat⟩ := hh.out
      clear hh
      obtain ⟨x, hx⟩ : ∃ x, l[k] = x := ⟨_, rfl⟩
      have hm : ∀ h : k < (l1 ++ l.drop k).length, (l1 ++ l.drop k)[k] = x := fun h => (get_mid l1 l k hl1 hk2 h).trans hx
      have hxa : x.At (· < W.heap.size) wr := (HA.out x (by rw [← hx]; exact List.getElem_mem hk2)).below hb (fun _ h => h)
      have hxl := HPS.out x (by rw [← hx]; exact List.getElem_mem hk2)
      obtain ⟨g, cap2, e2, hg1, hg2⟩ := owns_at hown (by omega)
      cases e2
      obtain ⟨cc0, cc1, cc2, cc3, cc4⟩ := Sq.cells (y := x) (w := wr) (b := g) (o := k * 5) (fun j u hj => by
        have hj2 : j < 5 := (List.getElem?_eq_some_iff.1 hj).1
        have hlen : (l1 ++ l.drop k).length = l.length := by rw [List.length_append, List.length_drop, hl1]; omega
        rw [hown.cellAt (k * 5 + j) (by omega), flat_get Sq.enc_length _ k (by omega) j hj2]
        rw [hm]
        exact hj)
      have HB := hid hb
      have HOW := hid hown
      have HAT := hid hat
      have HL1 := hid hl1
      have HC1 := hid hc1
      have HX := hid hx
      have HXA := hid hxa
      clear hm
      clear hb hown hat hc1 hx hxa
      clear hl1
      obtain ⟨B1, hB1⟩ : ∃ b, b = wr.alloc (.cells #[.int .i64 x.node, .int .i64 x.seq, .slice x.pa x.sp.length x.pcap, .int .i64 x.tries, .int .i64 x.due] 93) := ⟨_, rfl⟩
      have hbb : Below wr.heap.size wr B1 := by rw [hB1]; go_grown
      have HPC := hid (own_any (p := (· < W.heap.size)) x B1 (HXA.out.below hbb (fun b hb => Nat.lt_of_lt_of_le hb HB.out.size)) (fun b hb => Nat.lt_of_lt_of_le hb (Nat.le_trans HB.out.size hbb.size)) hxl)
      have HBB := hid hbb
      have HE1 := hid hB1
      clear hbb
      rw [hB1] at HPC
      clear hB1
      go_wp2_with fail
      refine HPC.out.mono ?_
      rintro e w3 ⟨v3, rfl, pa, pcap, rfl, hb3, hown3⟩
      rw [← HE1.out] at hb3 hown3
      have HB3 := hid (HBB.out.trans (hb3.mono HBB.out.size))
      have HO3 := hid hown3
      have hown4 := owns_below HOW.out HB3.out
      have hsz := hb3.size
      have HSZ : wr.heap.size < B1.heap.size := by rw [HE1.out]; simp
      have hg3 : g < w3.heap.size := by omega
      have hlen : (l1 ++ l.drop k).length = l.length := by rw [List.length_append, List.length_drop, HL1.out]; omega
      have hcell : ∀ j u, j < 5 → (Sq.enc x)[j]? = some u → w3.cell? ⟨g, k * 5 + j, none⟩ = some u := fun j u hj2 hj => by
        rw [hown4.cellAt (k * 5 + j) (by omega), flat_get Sq.enc_length _ k (by omega) j hj2, get_mid l1 l k HL1.out hk2 (by omega), HX.out]
        exact hj
      have dd0 := hcell 0 _ (by decide) rfl
      have dd1 := hcell 1 _ (by decide) rfl
      have dd2 := hcell 2 _ (by decide) rfl
      rw [Nat.add_zero] at dd0
      have hfz : ∀ j, w3.frozen? ⟨g, j, none⟩ = false := fun j => hown4.frozenAt _
      have HR : Hid (∃ l2 : List Sq, l2.length = k + 1 ∧ l2.map Sq.core = (l.take (k + 1)).map Sq.core ∧ Below W.heap.size W (put3 w3 g (k * 5) { x with pa := pa, pcap := pcap }) ∧ (put3 w3 g (k * 5) { x with pa := pa, pcap := pcap }).ownsRow W.heap.size 93 5 (.slice (some ⟨g, 0, none⟩) l.length cap1) l.length ((l2 ++ l.drop (k + 1)).flatMap Sq.enc) ∧ Cop W.heap.size (put3 w3 g (k * 5) { x with pa := pa, pcap := pcap }) (.slice (some ⟨g, 0, none⟩) l.length cap1) l2) := by
        have hon3 := put3_only w3 g (k * 5) { x with pa := pa, pcap := pcap }
        have hon : Only [g] wr (put3 w3 g (k * 5) { x with pa := pa, pcap := pcap }) := (show Only [g] wr w3 from Only.of_below HB3.out).trans hon3
        have hbl : blocks (.slice (some ⟨g, 0, none⟩) l.length cap1) = [g] := rfl
        have hgw : ∀ b, b ∈ kBlk { x with pa := pa, pcap := pcap } → B1.heap.size ≤ b ∧ b < w3.heap.size := owns_bd HO3.out
        refine ⟨l1 ++ [{ x with pa := pa, pcap := pcap }], by simp [HL1.out], ?_, ?_, ?_, ?_, ?_⟩
        · exact map_take_snoc Sq.core l1 l k hk2 _ HC1.out (by rw [HX.out]; rfl)
        · exact HB.out.trans (hon.below HB.out.size (fun b hb => by simp at hb; omega))
        · have hgm := get_mid l1 l k HL1.out hk2 (by omega)
          have hst := put3_owns hown4 k (by omega) { x with pa := pa, pcap := pcap } (by rw [hgm, HX.out]) (by rw [hgm, HX.out])
          rw [set_mid l1 l k HL1.out hk2] at hst
          exact hst
        · intro y hy
          rcases List.mem_append.1 hy with hy | hy
          · exact (HAT.out.own y hy).keep hon (by rw [← hbl]; exact HAT.out.far y hy)
          · obtain rfl : y = { x with pa := pa, pcap := pcap } := by simpa using hy
            refine (OwnK.le (show OwnK B1.heap.size w3 { x with pa := pa, pcap := pcap } from HO3.out) (by have := HB.out.size; omega)).keep hon3 (fun b hb => ?_)
            have := hgw b hb
            simp; omega
        · intro y hy
          rcases List.mem_append.1 hy with hy | hy
          · exact HAT.out.far y hy
          · obtain rfl : y = { x with pa := pa, pcap := pcap } := by simpa using hy
            rw [hbl]
            intro b hb
            have := hgw b hb
            simp; omega
      clear hb3 hown3 hown4 HPC cc0 cc1 cc2 cc3 cc4 hcell
      unfold put3 at HR
      go_wp2_with fail
      go_roundw
      case rel => exact ⟨k + 1, by omega, by go_num, HR⟩
      case measure => simp [intOf]; omega
    · obtain rfl : k = l.length := by omega
      obtain ⟨l1, hl1, hc1, hb, hown, hat⟩ := hh.out
      rw [List.take_length] at hc1
      rw [List.drop_length, List.append_nil] at hown
      have HR := hid (show CopQ W l (.slice a1 l.length cap1) wr from ⟨l1, hc1, hb, hown, hat⟩)
      clear hl1 hc1 hb hown hat hh
      go_wp2_with fail
      go_ret
      exact ⟨_, rfl, HR.out⟩
end C26
end Go.Proofs.Ytcohcanakicmpaa
namespace Go.Peri
namespace Sq
open Go.RowKit
/-- Those that are not of a number. -/
def rest (l : List Sq) (q : Int) : List Sq := l.filter (fun k => !(k.seq == q))
def ixQ (l : List Sq) (q : Int) : Nat := l.findIdx (fun k => k.seq == q)
def atQ (l : List Sq) (q : Int) : Int := if ixQ l q < l.length then ixQ l q else -1
theorem ixQ_hit {l : List Sq} {q : Int} {k : Nat} (hk : k < l.length) (h1 : (l[k].seq == q) = true) (h2 : ∀ j (_ : j < k) (hj : j < l.length), (l[j].seq == q) = false) : ixQ l q = k := by
  unfold ixQ
  rw [List.findIdx_eq hk]
  exact ⟨h1, fun j hj => by simpa using h2 j hj (by omega)⟩
theorem ixQ_none {l : List Sq} {q : Int} (h2 : ∀ j (_ : j < l.length) (hj : j < l.length), (l[j].seq == q) = false) : ¬ ixQ l q < l.length := by
  intro h
  have := List.findIdx_getElem (w := h)
  have h3 := h2 _ h h
  unfold ixQ at h3
  rw [h3] at this
  exact Bool.noConfusion this
theorem rest_snoc (l : List Sq) (x : Sq) (q : Int) : rest (l ++ [x]) q = if (x.seq == q) = true then rest l q else rest l q ++ [x] := by
  unfold rest
  rw [List.filter_append]
  cases hq : (x.seq == q) <;> simp [List.filter_cons, hq]
theorem rest_first {l : List Sq} {q : Int} (h : ixQ l q < l.length) : rest (l.take (ixQ l q + 1)) q = l.take (ixQ l q) := by
  have hit : (l[ixQ l q].seq == q) = true := List.findIdx_getElem (w := h)
  rw [List.take_succ_eq_append_getElem h, rest_snoc, if_pos hit]
  unfold rest
  rw [List.filter_eq_self]
  intro x hx
  obtain ⟨i, hi, rfl⟩ := List.getElem_of_mem hx
  rw [List.length_take] at hi
  rw [List.getElem_take]
  have := List.not_of_lt_findIdx (p := fun k : Sq => k.seq == q) (xs := l) (i := i) (by unfold ixQ at hi; omega)
  simpa using this
theorem rest_none {l : List Sq} {q : Int} (h : ¬ ixQ l q < l.length) : rest l q = l := by
  unfold rest
  rw [List.filter_eq_self]
  intro x hx
  have h2 : l.findIdx (fun k => k.seq == q) = l.length := by
    have := List.findIdx_le_length (p := fun k : Sq => k.seq == q) (xs := l)
    unfold ixQ at h
    omega
  rw [List.findIdx_eq_length] at h2
  simpa using h2 x hx
/-- How many spans. -/
def total (l : List Sq) : Nat := (l.map (fun k => k.sp.length)).sum
theorem total_snoc (l : List Sq) (x : Sq) : total (l ++ [x]) = total l + x.sp.length := by simp [total]
theorem total_le {l : List Sq} (h : ∀ x ∈ l, x.sp.length ≤ 1000000) : total l ≤ l.length * 1000000 := by
  induction l with
  | nil => simp [total]
  | cons x l ih =>
    have h1 := h x (by simp)
    have h2 := ih (fun y hy => h y (by simp [hy]))
    simp only [total, List.map_cons, List.sum_cons, List.length_cons] at *
    omega
end Sq
end Go.Peri
namespace Go.Proofs.Ytcohcanakicmpaa
open Go.RowKit Go.Peri
open Gen (flat_set set_mid get_mid map_take_snoc owns_at owns_num owns_le owns_below owns_form)
namespace C26
open Sq (rest ixQ atQ total)
set_option maxRecDepth 100000 in
theorem lit_any (y : Sq) (q : Int) (B : Nat) (w : World) (hB : B < w.heap.size) (h0 : w.cell? ⟨B, 0, none⟩ = some (.int .i64 q)) :
    Calls Try.prog 63 #[.agg #[.int .i64 y.node, .int .i64 y.seq, .slice y.pa y.sp.length y.pcap, .int .i64 y.tries, .int .i64 y.due], .pointer (some ⟨B, 0, none⟩)] w fun e w' => e = .returned (.bool (y.seq == q)) ∧ Below w.heap.size w w' := by
  have hne : B ≠ w.heap.size := by omega
  go_enter Try.func63, Try.ntmps63
  go_wp2_with fail
  go_ret
  exact ⟨rfl, by go_grown⟩
set_option maxRecDepth 100000 in
theorem index_any {p : Nat → Prop} (v : Value) (l : List Sq) (q : Int) (B : Nat) (W : World) (h : RowsOf p Sq.enc 5 W v l) (hp : ∀ b, p b → b < W.heap.size) (hl : l.length ≤ 9223372036854775807) (hB : B < W.heap.size) (h0 : W.cell? ⟨B, 0, none⟩ = some (.int .i64 q)) :
    Calls Try.prog 89 #[v, .func (.func 63) #[] #[.pointer (some ⟨B, 0, none⟩)]] W fun e w' => e = .returned (.int .i64 (atQ l q)) ∧ Below W.heap.size W w' := by
  obtain ⟨a, cap, rfl, hlc, hcm, _, hcell⟩ := h
  have HC := hid hcell
  have HP := hid hp
  have HC0 := hid h0
  clear hcell hp h0
  go_enter Try.func89, Try.ntmps89
  go_wp2_with fail
  go_loopw [5, 8] (fun _ i wr => ∃ k : Nat, k ≤ l.length ∧ i = .int .i64 k ∧ Below W.heap.size W wr ∧ ∀ j (_ : j < k) (hj : j < l.length), (l[j].seq == q) = false) (fun _ i _ => l.length - (intOf i).toNat)
  case atStart => exact ⟨0, Nat.zero_le _, rfl, Below.refl _ _, fun j hj => absurd hj (Nat.not_lt_zero _)⟩
  case round =>
    obtain ⟨k, hk, rfl, hb, hno⟩ := hrel
    have HB := hid hb
    have HN := hid hno
    clear hb hno
    by_cases hlt : k < l.length
    · obtain ⟨b, off, rfl, hpb, hc⟩ := HC.out.resolve_left (by intro e; rw [e] at hlt; simp at hlt)
      have hbl := HP.out b hpb
      obtain ⟨c0, c1, c2, c3, c4⟩ := Sq.cells (fun j u hu => (HB.out.cell (p := ⟨b, off + k * 5 + j, none⟩) hbl).trans (hc k hlt j u hu))
      have HLit := hid (lit_any l[k] q B wr (Nat.lt_of_lt_of_le hB HB.out.size) ((HB.out.cell (p := ⟨B, 0, none⟩) hB).trans HC0.out))
      have HNext : Hid (∀ j (_ : j < k + 1) (hj : j < l.length), (l[k].seq == q) = false → (l[j].seq == q) = false) := by
        intro j hj hjl hne
        by_cases e : j = k
        · subst e; exact hne
        · exact HN.out j (by omega) hjl
      have HHit : Hid ((l[k].seq == q) = true → atQ l q = k) := fun hh => by
        have := Sq.ixQ_hit hlt hh HN.out
        unfold Sq.atQ
        rw [this, if_pos hlt]
      clear hc
      generalize l[k] = y at c0 c1 c2 c3 c4 HLit HNext HHit
      generalize (y.seq == q) = bq at HLit HNext HHit
      cases bq
      · go_wp2_with (go_at_call 63; refine HLit.out.mono ?_; rintro e w1 ⟨rfl, hb1⟩)
        go_roundw
        case rel => exact ⟨k + 1, by omega, by go_num, HB.out.trans (hb1.mono HB.out.size), fun j hj hjl => HNext.out j hj hjl (by first | rfl | trivial)⟩
        case measure => simp [intOf]; omega
      · go_wp2_with (go_at_call 63; refine HLit.out.mono ?_; rintro e w1 ⟨rfl, hb1⟩)
        go_ret
        exact ⟨by rw [HHit.out (by first | rfl | trivial)]; rfl, HB.out.trans (hb1.mono HB.out.size)⟩
    · obtain rfl : k = l.length := by omega
      go_wp2_with fail
      go_ret
      exact ⟨by unfold Sq.atQ; rw [if_neg (Sq.ixQ_none (fun j hj hjl => HN.out j hj hjl))]; rfl, HB.out⟩
theorem row5 {w : World} {g : Nat} {cs : Array Value} {t : TypeId} (h : Blk w g cs t) {l : List Sq} {lo hi : Nat} (hx : ∀ q, lo ≤ q → q < hi → cs[q]? = (l.flatMap Sq.enc)[q]?) (k : Nat) (hk : k < l.length) (h1 : lo ≤ k * 5) (h2 : k * 5 + 4 < hi) :
    ∀ j u, (l[k]).enc[j]? = some u → w.cell? ⟨g, k * 5 + j, none⟩ = some u := by
  intro j u hu
  have hj : j < 5 := (List.getElem?_eq_some_iff.1 hu).1
  rw [h.cell, hx _ (by omega) (by omega), flat_get Sq.enc_length l k hk j hj]
  exact hu
/-- A row half worked on: its first places hold A, those from k on what they held. -/
structure Half (g cap m k : Nat) (A l : List Sq) (w : World) : Prop where
  ex : ∃ cs, Blk w g cs 93 ∧ cs.size = cap * 5 ∧ (∀ q, q < m * 5 → cs[q]? = (A.flatMap Sq.enc)[q]?) ∧ (∀ q, k * 5 ≤ q → q < l.length * 5 → cs[q]? = (l.flatMap Sq.enc)[q]?)
  len : A.length = m
theorem Half.set {g cap m k : Nat} {A l : List Sq} {w w' : World} {x : Sq} {cs : Array Value} (hb : Blk w g cs 93) (hs : cs.size = cap * 5) (h1 : ∀ q, q < m * 5 → cs[q]? = (A.flatMap Sq.enc)[q]?) (h2 : ∀ q, k * 5 ≤ q → q < l.length * 5 → cs[q]? = (l.flatMap Sq.enc)[q]?) (hA : A.length = m) (hmk : m < k) (hkc : k ≤ cap)
    (hw : w' = (((((w).setCell ⟨g, m * 5, none⟩ (.int .i64 x.node)).setCell ⟨g, m * 5 + 1, none⟩ (.int .i64 x.seq)).setCell ⟨g, m * 5 + 2, none⟩ (.slice x.pa x.sp.length x.pcap)).setCell ⟨g, m * 5 + 3, none⟩ (.int .i64 x.tries)).setCell ⟨g, m * 5 + 4, none⟩ (.int .i64 x.due)) : Half g cap (m + 1) (k + 1) (A ++ [x]) l w' := by
  subst hw
  refine ⟨⟨_, ((((hb.set _ _).set _ _).set _ _).set _ _).set _ _, by simpa using hs, fun q hq => ?_, fun q hq hq2 => ?_⟩, by simp [hA]⟩
  · simp only [Array.getElem?_setIfInBounds, Array.size_setIfInBounds]
    rw [List.flatMap_append, List.getElem?_append, flat_length Sq.enc_length, hA]
    by_cases e4 : m * 5 + 4 = q
    · subst e4
      rw [if_pos rfl, if_pos (by omega), if_neg (by omega), show m * 5 + 4 - m * 5 = 4 by omega]; rfl
    rw [if_neg e4]
    by_cases e3 : m * 5 + 3 = q
    · subst e3
      rw [if_pos rfl, if_pos (by omega), if_neg (by omega), show m * 5 + 3 - m * 5 = 3 by omega]; rfl
    rw [if_neg e3]
    by_cases e2 : m * 5 + 2 = q
    · subst e2
      rw [if_pos rfl, if_pos (by omega), if_neg (by omega), show m * 5 + 2 - m * 5 = 2 by omega]; rfl
    rw [if_neg e2]
    by_cases e1 : m * 5 + 1 = q
    · subst e1
      rw [if_pos rfl, if_pos (by omega), if_neg (by omega), show m * 5 + 1 - m * 5 = 1 by omega]; rfl
    rw [if_neg e1]
    by_cases e0 : m * 5 = q
    · subst e0
      rw [if_pos rfl, if_pos (by omega), if_neg (by omega), Nat.sub_self]; rfl
    rw [if_neg e0, if_pos (by omega)]
    exact h1 q (by omega)
  · simp only [Array.getElem?_setIfInBounds]
    rw [if_neg (by omega), if_neg (by omega), if_neg (by omega), if_neg (by omega), if_neg (by omega)]
    exact h2 q (by omega) hq2
def DelQ (base : Nat) (a : Option Addr) (cap : Nat) (A : List Sq) (w : World) (e : Ending) (w' : World) : Prop := e = .returned (.slice a A.length cap) ∧ Only (blocks (.slice a A.length cap)) w w' ∧ Hid (w'.ownsRow base 93 5 (.slice a A.length cap) A.length (A.flatMap Sq.enc))
set_option maxRecDepth 100000 in
set_option maxHeartbeats 2000000 in
theorem delete_hit (base g cap : Nat) (l : List Sq) (q : Int) (B : Nat) (W : World) (h : W.ownsRow base 93 5 (.slice (some ⟨g, 0, none⟩) l.length cap) l.length (l.flatMap Sq.enc)) (hl : l.length ≤ 1000000) (hB : B < W.heap.size) (hBg : B ≠ g) (hc : W.cell? ⟨B, 0, none⟩ = some (.int .i64 q)) (hx : ixQ l q < l.length) :
    Calls Try.prog 61 #[.slice (some ⟨g, 0, none⟩) l.length cap, .func (.func 63) #[] #[.pointer (some ⟨B, 0, none⟩)]] W (DelQ base (some ⟨g, 0, none⟩) cap (rest l q) W) := by
  have HIX := hid (index_any _ l q B W (RowsOf.of_owns Sq.enc_length h) (fun b hb => hb.2) (by omega) hB hc)
  have hat : Hid (atQ l q = (ixQ l q : Nat)) := hid (if_pos hx)
  rw [hat.out] at HIX
  have hfirst := hid (Sq.rest_first hx)
  obtain ⟨cur, hbg, hblk, hnc, hcm, hcs, htake⟩ : ∃ cur, base ≤ g ∧ Blk W g cur 93 ∧ l.length ≤ cap ∧ cap ≤ maxLen ∧ cur.size = cap * 5 ∧ cur.toList.take (l.length * 5) = l.flatMap Sq.enc := by
    rcases h.2 with ⟨h3, _⟩ | ⟨g', cp, cur, e, q1, q2, q3, q4, q5, q6⟩
    · cases h3
    · cases e; exact ⟨cur, q1, q2, q3, q4, q5, q6⟩
  have hcur : ∀ q, q < l.length * 5 → cur[q]? = (l.flatMap Sq.enc)[q]? := fun q hq => by
    rw [← htake, List.getElem?_take, if_pos hq, Array.getElem?_toList]
  obtain ⟨i0, hi0⟩ : ∃ i, i = ixQ l q := ⟨_, rfl⟩
  rw [← hi0] at hx HIX hfirst
  have H0 : Hid (Half g cap i0 (i0 + 1) (rest (l.take (i0 + 1)) q) l W) := by
    refine ⟨⟨cur, hblk, hcs, fun q hq => ?_, fun q _ hq2 => hcur q hq2⟩, by rw [hfirst.out, List.length_take]; omega⟩
    rw [hcur q (by omega), hfirst.out]
    conv => lhs; rw [← List.take_append_drop i0 l, List.flatMap_append]
    rw [List.getElem?_append_left (by rw [flat_length Sq.enc_length, List.length_take]; omega)]
  have hgl := hblk.lt
  have HCB := hid hc
  have hz : ∃ z : Value, (∀ w, (zeroValue 93).run Try.prog w = .ok z w) ∧ z.cells.size = 5 ∧ ∀ v ∈ z.cells.toList, v.oneCell' = true := by
    refine ⟨.agg #[.int .i64 0, .int .i64 0, .slice none 0 0, .int .i64 0, .int .i64 0], Try.zeroValue93, rfl, ?_⟩
    intro v hv
    simp only [Value.cells, List.mem_cons, List.not_mem_nil, or_false] at hv
    rcases hv with rfl | rfl | rfl | rfl | rfl <;> rfl
  have HZ := hid hz
  clear h hat hblk hcs htake hcur hi0 hc hz
  have e1 : (((i0 : Nat) : Int) == -1) = false := by rw [beq_eq_false_iff_ne]; omega
  go_enter Try.func61, Try.ntmps61
  go_wp2_with fail
  refine HIX.out.mono ?_
  rintro e w1 ⟨rfl, hb1⟩
  have HO1 : Hid (Only [g] W w1) := Only.of_below hb1
  have HF1 : Hid (Half g cap i0 (i0 + 1) (rest (l.take (i0 + 1)) q) l w1) := by
    obtain ⟨⟨cs, q1, q2⟩, q3⟩ := H0.out
    exact ⟨⟨cs, q1.later hb1, q2⟩, q3⟩
  clear hb1 H0 HIX
  go_wp2_with fail
  go_loopw [5, 6] (fun a b wr => ∃ m k : Nat, k ≤ l.length ∧ m < k ∧ a = .int .i64 m ∧ b = .int .i64 k ∧ Only [g] W wr ∧ Half g cap m k (rest (l.take k) q) l wr) (fun _ b _ => l.length - (intOf b).toNat)
  case atStart => exact ⟨i0, i0 + 1, by omega, by omega, rfl, by go_num, HO1.out, HF1.out⟩
  case round =>
    obtain ⟨m, k, hk, hmk, rfl, rfl, ho, hf⟩ := hrel
    have HO := hid ho
    obtain ⟨⟨cs, hb, hs, h1, h2⟩, hA⟩ := hf
    have hws := ho.size
    by_cases hlt : k < l.length
    · obtain ⟨c0, c1, c2, c3, c4⟩ := Sq.cells (row5 hb (lo := k * 5) (hi := l.length * 5) (l := l) (fun q q1 q2 => h2 q q1 q2) k hlt (by omega) (by omega))
      obtain ⟨bq, hq⟩ : ∃ bq, (l[k].seq == q) = bq := ⟨_, rfl⟩
      have HLit : Hid (∀ w', Below wr.heap.size wr w' → Calls Try.prog 63 #[.agg #[.int .i64 l[k].node, .int .i64 l[k].seq, .slice l[k].pa l[k].sp.length l[k].pcap, .int .i64 l[k].tries, .int .i64 l[k].due], .pointer (some ⟨B, 0, none⟩)] w' fun e w'' => e = .returned (.bool bq) ∧ Below w'.heap.size w' w'') := fun w' hw' => by
        have hBr : B < wr.heap.size := by omega
        rw [← hq]
        refine lit_any l[k] q B w' (Nat.lt_of_lt_of_le hBr hw'.size) ?_
        rw [hw'.cell (p := ⟨B, 0, none⟩) hBr, HO.out.cell (p := ⟨B, 0, none⟩) hB (by simpa using hBg)]
        exact HCB.out
      have hsn : Hid (rest (l.take (k + 1)) q = if bq = true then rest (l.take k) q else rest (l.take k) q ++ [l[k]]) := hid (by
        rw [List.take_succ_eq_append_getElem hlt, Sq.rest_snoc, ← hq])
      have hcapk : k < cap := by omega
      generalize l[k] = y at c0 c1 c2 c3 c4 HLit hsn
      generalize rest (l.take k) q = A at h1 hA hsn
      clear hq
      have hgr : g < wr.heap.size := by omega
      have HHB := hid hb
      have HH1 := hid h1
      have HH2 := hid h2
      have HHS := hid hs
      clear hb h1 h2 hs ho
      cases bq
      · go_wp2_with fail
        refine (HLit.out _ (by go_grown)).mono ?_
        rintro e w2 ⟨rfl, hb2⟩
        have hbw : Below wr.heap.size wr w2 := Below.trans (by go_grown) (hb2.mono (by simp))
        have hk2 : Blk w2 wr.heap.size #[.int .i64 y.node, .int .i64 y.seq, .slice y.pa y.sp.length y.pcap, .int .i64 y.tries, .int .i64 y.due] 93 := (Blk.new wr _ _).later hb2
        obtain ⟨z0, z1, z2, z3, z4, -⟩ := blk5' hk2
        have hbg2 := HHB.out.later hbw
        obtain ⟨t0, ht0⟩ : ∃ v, w2.cell? ⟨g, m * 5, none⟩ = some v := ⟨cs[m * 5]'(by rw [HHS.out]; omega), by rw [hbg2.cell, Array.getElem?_eq_getElem]⟩
        have f0 := hbg2.free (m * 5)
        obtain ⟨t1, ht1⟩ : ∃ v, w2.cell? ⟨g, m * 5 + 1, none⟩ = some v := ⟨cs[m * 5 + 1]'(by rw [HHS.out]; omega), by rw [hbg2.cell, Array.getElem?_eq_getElem]⟩
        have f1 := hbg2.free (m * 5 + 1)
        obtain ⟨t2, ht2⟩ : ∃ v, w2.cell? ⟨g, m * 5 + 2, none⟩ = some v := ⟨cs[m * 5 + 2]'(by rw [HHS.out]; omega), by rw [hbg2.cell, Array.getElem?_eq_getElem]⟩
        have f2 := hbg2.free (m * 5 + 2)
        obtain ⟨t3, ht3⟩ : ∃ v, w2.cell? ⟨g, m * 5 + 3, none⟩ = some v := ⟨cs[m * 5 + 3]'(by rw [HHS.out]; omega), by rw [hbg2.cell, Array.getElem?_eq_getElem]⟩
        have f3 := hbg2.free (m * 5 + 3)
        obtain ⟨t4, ht4⟩ : ∃ v, w2.cell? ⟨g, m * 5 + 4, none⟩ = some v := ⟨cs[m * 5 + 4]'(by rw [HHS.out]; omega), by rw [hbg2.cell, Array.getElem?_eq_getElem]⟩
        have f4 := hbg2.free (m * 5 + 4)
        have hng : ¬ g = wr.heap.size := by omega
        have hng2 : ¬ wr.heap.size = g := by omega
        have HF2 : Hid (Half g cap (m + 1) (k + 1) (rest (l.take (k + 1)) q) l ((((((w2).setCell ⟨g, m * 5, none⟩ (.int .i64 y.node)).setCell ⟨g, m * 5 + 1, none⟩ (.int .i64 y.seq)).setCell ⟨g, m * 5 + 2, none⟩ (.slice y.pa y.sp.length y.pcap)).setCell ⟨g, m * 5 + 3, none⟩ (.int .i64 y.tries)).setCell ⟨g, m * 5 + 4, none⟩ (.int .i64 y.due))) := hid (by
          rw [hsn.out, if_neg (by simp)]
          exact Half.set hbg2 HHS.out HH1.out HH2.out hA hmk (by omega) rfl)
        have HO2 : Hid (Only [g] W ((((((w2).setCell ⟨g, m * 5, none⟩ (.int .i64 y.node)).setCell ⟨g, m * 5 + 1, none⟩ (.int .i64 y.seq)).setCell ⟨g, m * 5 + 2, none⟩ (.slice y.pa y.sp.length y.pcap)).setCell ⟨g, m * 5 + 3, none⟩ (.int .i64 y.tries)).setCell ⟨g, m * 5 + 4, none⟩ (.int .i64 y.due))) := hid (((((((HO.out.trans (Only.of_below hbw)).setCell (by simp) _).setCell (by simp) _).setCell (by simp) _).setCell (by simp) _).setCell (by simp) _))
        clear hb2 hbw hk2 hbg2
        go_wp2_with fail
        go_roundw
        case rel => exact ⟨m + 1, k + 1, by omega, by omega, by go_num, by go_num, HO2.out, HF2.out⟩
        case measure => simp [intOf]; omega
      · go_wp2_with fail
        refine (HLit.out _ (by go_grown)).mono ?_
        rintro e w2 ⟨rfl, hb2⟩
        have hbw : Below wr.heap.size wr w2 := Below.trans (by go_grown) (hb2.mono (by simp))
        have HF2 : Hid (Half g cap m (k + 1) (rest (l.take (k + 1)) q) l w2) := hid (by
          rw [hsn.out, if_pos (by simp)]
          exact ⟨⟨cs, HHB.out.later hbw, HHS.out, HH1.out, fun q q1 q2 => HH2.out q (by omega) q2⟩, hA⟩)
        have HO2 : Hid (Only [g] W w2) := hid (HO.out.trans (Only.of_below hbw))
        clear hb2 hbw
        go_wp2_with fail
        go_roundw
        case rel => exact ⟨m, k + 1, by omega, by omega, rfl, by go_num, HO2.out, HF2.out⟩
        case measure => simp [intOf]; omega
    · obtain rfl : k = l.length := by omega
      rw [List.take_length] at h1 hA
      obtain ⟨A, hA0⟩ : ∃ A, A = rest l q := ⟨_, rfl⟩
      rw [← hA0] at h1 hA
      have HA0 := hid hA0
      clear hA0
      obtain ⟨z, hzv, hzsz, hzone⟩ := HZ.out
      obtain ⟨zs, hzl, hcl⟩ := run_clear_cells (P := Try.prog) (t := 52) (e := 93) (size := 5) wr Try.underlying52 z hzv hzsz hzone g (m * 5) (l.length - m) (cap - m) (by omega) (fun q hq => by rw [hb.cell, Array.getElem?_eq_getElem (by rw [hs]; omega)]; rfl) (fun q _ => hb.free _)
      obtain ⟨cs2, hb2, hc2⟩ := Blk.setCells (w := wr) (cs := cs) (t := 93) zs (m * 5) hb
      have fin : DelQ base (some ⟨g, 0, none⟩) cap A W (.returned (.slice (some ⟨g, 0, none⟩) m cap)) (wr.setCells g (m * 5) zs) := by
        refine ⟨by rw [hA], Only.setCells (by simp [blocks, Value.ownBlock]) _ _ ho, ?_⟩
        show World.ownsRow _ _ _ _ _ _ _
        refine owns_of_blk hb2 hbg (by rw [hc2, hs]) (by omega) hcm (flat_length Sq.enc_length A) fun q hq => ?_
        rw [flat_length Sq.enc_length, hA] at hq
        rw [← hb2.cell, World.cell?_setCells_out g zs (m * 5) wr ⟨g, q, none⟩ (fun _ _ => .inl hq), hb.cell, h1 q hq]
      have HFin := hid fin
      have k1 : (0 : Int) ≤ (m : Int) := by omega
      have k2 : (m : Int) ≤ (l.length : Int) := by omega
      have k3 : (m : Int) ≤ (cap : Int) := by omega
      have k4 : (l.length : Int) ≤ (cap : Int) := by omega
      have k5 : ¬ cap = m := by omega
      clear h1 h2 hb hb2 hc2 hzl hzv hzsz hzone fin ho HZ
      go_wp2_with fail
      go_ret
      rw [← HA0.out]
      exact HFin.out
set_option maxRecDepth 100000 in
theorem delete_any (base : Nat) (a : Option Addr) (cap : Nat) (l : List Sq) (q : Int) (B : Nat) (W : World) (h : W.ownsRow base 93 5 (.slice a l.length cap) l.length (l.flatMap Sq.enc)) (hl : l.length ≤ 1000000) (hB : B < W.heap.size) (hBg : B < base) (hc : W.cell? ⟨B, 0, none⟩ = some (.int .i64 q)) :
    Calls Try.prog 61 #[.slice a l.length cap, .func (.func 63) #[] #[.pointer (some ⟨B, 0, none⟩)]] W (DelQ base a cap (rest l q) W) := by
  by_cases hx : ixQ l q < l.length
  · obtain ⟨g, cap2, e2, hg1, hg2⟩ := owns_at h (by omega)
    cases e2
    exact delete_hit base g cap l q B W h hl hB (by omega) hc hx
  · have HIX := hid (index_any _ l q B W (RowsOf.of_owns Sq.enc_length h) (fun b hb => hb.2) (by omega) hB hc)
    have hat : atQ l q = -1 := if_neg hx
    rw [hat] at HIX
    have HR : Hid (rest l q = l) := hid (Sq.rest_none hx)
    have HO := hid h
    clear h hx hat hc
    go_enter Try.func61, Try.ntmps61
    go_wp2_with fail
    refine HIX.out.mono ?_
    rintro e w1 ⟨rfl, hb1⟩
    have HB1 := hid hb1
    clear hb1 HIX
    go_wp2_with fail
    go_ret
    rw [HR.out]
    exact ⟨rfl, Only.of_below HB1.out, owns_below HO.out HB1.out⟩
set_option maxRecDepth 100000 in
theorem spans_any {p : Nat → Prop} (v : Value) (l : List Sq) (W : World) (h : RowsOf p Sq.enc 5 W v l) (hp : ∀ b, p b → b < W.heap.size) (hl : l.length ≤ 1000000) (hps : ∀ x ∈ l, x.sp.length ≤ 1000000) :
    Calls Try.prog 35 #[v] W fun e w' => e = .returned (.int .i64 (total l : Nat)) ∧ Below W.heap.size W w' := by
  obtain ⟨a, cap, rfl, hlc, hcm, _, hcell⟩ := h
  have HC := hid hcell
  have HP := hid hp
  have HPS := hid hps
  clear hcell hp hps
  go_enter Try.func35, Try.ntmps35
  go_wp2_with fail
  go_loopw [3, 8] (fun s i wr => ∃ k T : Nat, k ≤ l.length ∧ T ≤ k * 1000000 ∧ s = .int .i64 T ∧ i = .int .i64 k ∧ Hid (Below W.heap.size W wr) ∧ Hid (T = total (l.take k))) (fun _ i _ => l.length - (intOf i).toNat)
  case atStart => exact ⟨0, 0, Nat.zero_le _, Nat.zero_le _, rfl, rfl, hid (Below.refl _ _), hid rfl⟩
  case round =>
    obtain ⟨k, T, hk, hT, rfl, rfl, HB, HT⟩ := hrel
    by_cases hlt : k < l.length
    · obtain ⟨b, off, rfl, hpb, hc⟩ := HC.out.resolve_left (by intro e; rw [e] at hlt; simp at hlt)
      have hbl := HP.out b hpb
      obtain ⟨c0, c1, c2, c3, c4⟩ := Sq.cells (fun j u hu => (HB.out.cell (p := ⟨b, off + k * 5 + j, none⟩) hbl).trans (hc k hlt j u hu))
      have HN : Hid (T + l[k].sp.length = total (l.take (k + 1))) := hid (by rw [List.take_succ_eq_append_getElem hlt, Sq.total_snoc, HT.out])
      have hxl := HPS.out l[k] (List.getElem_mem hlt)
      clear hc
      generalize l[k] = y at c0 c1 c2 c3 c4 HN hxl
      obtain ⟨n, hn⟩ : ∃ n, y.sp.length = n := ⟨_, rfl⟩
      rw [hn] at c2 HN hxl
      clear hn
      have hw : IntKind.i64.wrap ((T : Int) + (n : Int)) = (T : Int) + (n : Int) := by rw [IntKind.wrap_i64]; omega
      have HB2 : Hid (Below W.heap.size W (wr.alloc (.cells #[.int .i64 y.node, .int .i64 y.seq, .slice y.pa n y.pcap, .int .i64 y.tries, .int .i64 y.due] 93))) := hid (HB.out.alloc HB.out.size _)
      go_wp2_with fail
      go_roundw
      case rel => exact ⟨k + 1, T + n, by omega, by omega, by go_num, by go_num, HB2, HN⟩
      case measure => simp [intOf]; omega
    · obtain rfl : k = l.length := by omega
      rw [List.take_length] at HT
      go_wp2_with fail
      go_ret
      exact ⟨by rw [HT.out]; rfl, HB.out⟩
end C26
end Go.Proofs.Ytcohcanakicmpaa
namespace Go.Peri
theorem wp_genF {P : Program} {c : Code} {Q : Exit → Act → World → Prop} {a : Act} {w : World} (h : ∀ w2, w2 = w → c.wp P Q a w2) : c.wp P Q a w := h w rfl
namespace Sq
theorem rest_core (l : List Sq) (q : Int) : (rest l q).map Sq.core = rest (l.map Sq.core) q := by
  induction l with
  | nil => rfl
  | cons x l ih =>
    unfold rest at *
    rw [List.map_cons, List.filter_cons, List.filter_cons, show (core x).seq = x.seq from rfl]
    cases (x.seq == q)
    · simp only [Bool.not_false, if_true, List.map_cons, ih]
    · simp only [Bool.not_true, Bool.false_eq_true, if_false, ih]
theorem total_core (l : List Sq) : total (l.map Sq.core) = total l := by
  unfold total
  rw [List.map_map]
  rfl
theorem total_of_core {l m : List Sq} (h : l.map Sq.core = m.map Sq.core) : total l = total m := by
  rw [← total_core l, ← total_core m, h]
theorem sp_of_core {l : List Sq} {cl : List Sq} (h : l.map Sq.core = cl) {N : Nat} (hs : ∀ k ∈ cl, k.sp.length ≤ N) : ∀ x ∈ l, x.sp.length ≤ N := by
  intro x hx
  subst h
  exact hs x.core (List.mem_map_of_mem hx)
end Sq
end Go.Peri
namespace Go.Proofs.Ytcohcanakicmpaa
open Go.RowKit Go.Peri
open Gen (flat_set set_mid get_mid map_take_snoc owns_at owns_num owns_le owns_below owns_form)
namespace C26
open Sq (rest ixQ atQ total)
/-- Batches, wherever memory has grown. -/
def FR (W : World) (cl : List Sq) (a : Option Addr) (n cap : Nat) (w' : World) : Prop :=
  ∃ l1 : List Sq, l1.length = n ∧ l1.map Sq.core = cl ∧ Below W.heap.size W w' ∧ RowsOf (· < w'.heap.size) Sq.enc 5 w' (.slice a n cap) l1 ∧ ∀ x ∈ l1, x.At (· < w'.heap.size) w'
theorem rows_len {p : Nat → Prop} {w : World} {a : Option Addr} {n cap : Nat} {l : List Sq} (hn : l.length = n) (h : RowsOf p Sq.enc 5 w (.slice a l.length cap) l) : RowsOf p Sq.enc 5 w (.slice a n cap) l := by rw [← hn]; exact h
theorem FR.len {W : World} {kl : List Sq} {a : Option Addr} {n cap : Nat} {w : World} (h : FR W kl a n cap w) : n = kl.length := by
  obtain ⟨l1, h1, h2, _⟩ := h
  rw [← h2, List.length_map, h1]
theorem FR.below {W : World} {kl : List Sq} {a : Option Addr} {n cap : Nat} {w : World} (h : FR W kl a n cap w) : Below W.heap.size W w := by
  obtain ⟨_, _, _, h, _⟩ := h
  exact h
theorem FR.self {W : World} {kl : List Sq} {a : Option Addr} {n cap : Nat} {w : World} (h : FR W kl a n cap w) : FR w kl a n cap w := by
  obtain ⟨l1, h1, h2, _, h4, h5⟩ := h
  exact ⟨l1, h1, h2, Below.refl _ _, h4, h5⟩
theorem FR.later {W : World} {kl : List Sq} {a : Option Addr} {n cap : Nat} {w w' : World} (h : FR W kl a n cap w) (hb : Below w.heap.size w w') : FR w' kl a n cap w' := by
  obtain ⟨l1, h1, h2, _, h4, h5⟩ := h
  exact ⟨l1, h1, h2, Below.refl _ _, (h4.below hb (fun _ h => h)).imp (fun b h => Nat.lt_of_lt_of_le h hb.size), fun x hx => ((h5 x hx).below hb (fun _ h => h)).imp (fun b h => Nat.lt_of_lt_of_le h hb.size)⟩
theorem FR.nil (w : World) : FR w [] none 0 0 w := ⟨[], rfl, rfl, Below.refl _ _, RowsOf.nil _ _ _ _, by simp⟩
def AckQ (W : World) (cl : List Sq) (q : Int) (v : Value) (w' : World) : Prop := ∃ a n cap, v = .tuple #[.slice a n cap, .int .i64 ((total cl : Int) - (total (rest cl q) : Int))] ∧ FR W (rest cl q) a n cap w'
theorem blocks_len (a : Option Addr) (n m cap : Nat) : blocks (.slice a n cap) = blocks (.slice a m cap) := by cases a <;> rfl
theorem ack_fin {W w0 w1 w2 w4 : World} {a1 : Option Addr} {cap1 n : Nat} {l1 : List Sq} {cl : List Sq} {q : Int} (hb0 : Below W.heap.size W w0) (hb1 : Below w0.heap.size w0 w1) (hc1 : l1.map Sq.core = cl) (hcop : Cop w0.heap.size w1 (.slice a1 n cap1) l1) (hown0 : ∀ b, b ∈ blocks (.slice a1 n cap1) → w0.heap.size ≤ b)
    (ho2 : Only (blocks (.slice a1 (rest l1 q).length cap1)) w1 w2) (hown2 : w2.ownsRow w0.heap.size 93 5 (.slice a1 (rest l1 q).length cap1) (rest l1 q).length ((rest l1 q).flatMap Sq.enc)) (hb4 : Below w2.heap.size w2 w4) :
    AckQ W cl q (.tuple #[.slice a1 (rest l1 q).length cap1, .int .i64 ((total cl : Int) - (total (rest l1 q) : Int))]) w4 := by
  have hb01 := hb0.trans (hb1.mono hb0.size)
  have hb2 : Below W.heap.size W w2 := hb01.trans (ho2.below hb01.size (fun b hb => Nat.le_trans hb0.size (hown0 b (by rw [blocks_len a1 n (rest l1 q).length cap1]; exact hb))))
  refine ⟨a1, (rest l1 q).length, cap1, ?_, rest l1 q, rfl, ?_, hb2.trans (hb4.mono hb2.size), ?_, ?_⟩
  · rw [← hc1, ← Sq.rest_core, Sq.total_core (rest l1 q)]
  · rw [← hc1, Sq.rest_core]
  · exact ((RowsOf.of_owns Sq.enc_length hown2).below (B := w2.heap.size) hb4 (fun b h => h.2)).imp (fun b h => Nat.lt_of_lt_of_le h.2 hb4.size)
  · intro x hx
    have hxm : x ∈ l1 := (List.mem_filter.1 hx).1
    have hk : OwnK w0.heap.size w2 x := (hcop.own x hxm).keep ho2 (by rw [blocks_len a1 (rest l1 q).length n cap1]; exact hcop.far x hxm)
    have hr : x.At (· < w2.heap.size) w2 := RowsOf.imp (RowsOf.of_owns Sp.enc_length hk) (fun b hb => hb.2)
    exact (hr.below hb4 (fun _ h => h)).imp (fun b h => Nat.lt_of_lt_of_le h hb4.size)
set_option maxRecDepth 100000 in
set_option maxHeartbeats 4000000 in
theorem ack_any (a : Option Addr) (cap : Nat) (l : List Sq) (q : Int) (W : World) (h : RowsOf (· < W.heap.size) Sq.enc 5 W (.slice a l.length cap) l) (hl : l.length ≤ 1000000) (ha : ∀ x ∈ l, x.At (· < W.heap.size) W) (hps : ∀ x ∈ l, x.sp.length ≤ 1000000) :
    Calls Try.prog 32 #[.slice a l.length cap, .int .i64 q] W (Ret (AckQ W (l.map Sq.core) q)) := by
  have HH := hid h
  have HA := hid ha
  have HPS := hid hps
  clear h ha hps
  go_enter Try.func32, Try.ntmps32
  go_upto_region 1 with fail
  refine wp_genF ?_
  intro w0 hw0
  have hb0 : Below W.heap.size W w0 := by rw [hw0]; go_grown
  have hk0 : Blk w0 W.heap.size #[.int .i64 q] 3 := by rw [hw0]; exact Blk.new _ _ _
  have hs0 : W.heap.size < w0.heap.size := by rw [hw0]; simp
  clear hw0
  have HB0 := hid hb0
  have HK0 := hid hk0
  have HC := hid (copied_any (p := (· < W.heap.size)) (.slice a l.length cap) l w0 (HH.out.below hb0 (fun _ h => h)) (fun b hb => Nat.lt_of_lt_of_le hb hb0.size) hl (fun x hx => ((HA.out x hx).below hb0 (fun _ h => h)).imp (fun b hb => Nat.lt_of_lt_of_le hb hb0.size)) HPS.out)
  clear hb0 hk0
  go_wp2_with fail
  refine HC.out.mono ?_
  rintro e w1 ⟨v1, rfl, l1, hc1, hb1, hown, hcop⟩
  have hl1 : l1.length = l.length := by
    have := congrArg List.length hc1
    simpa using this
  obtain ⟨a1, cap1, rfl⟩ := Gen.owns_form hown
  have HD := hid (delete_any w0.heap.size a1 cap1 l1 q W.heap.size w1 (by rw [hl1]; exact hown) (by omega) (Nat.lt_of_lt_of_le hs0 hb1.size) hs0 ((HK0.out.later hb1).cell 0))
  rw [hl1] at HD
  have HB1 := hid hb1
  have HC1 := hid hc1
  have HCP := hid hcop
  have HO0 := hid (fun b hb => (owns_bd hown b hb).1)
  have HL1 := hid hl1
  clear hc1 hb1 hown hcop HC hl1
  go_wp2_with fail
  refine HD.out.mono ?_
  rintro e w2 ⟨rfl, ho2, hown2⟩
  have hfin := hid (fun w4 (hb4 : Below w2.heap.size w2 w4) => ack_fin (q := q) HB0.out HB1.out HC1.out HCP.out HO0.out ho2 hown2.out hb4)
  rw [Sq.total_core] at hfin
  have hb01 := HB0.out.trans (HB1.out.mono HB0.out.size)
  have hb2 : Below W.heap.size W w2 := hb01.trans (ho2.below hb01.size (fun b hb => Nat.le_trans HB0.out.size (HO0.out b (by rw [blocks_len a1 l.length (rest l1 q).length cap1]; exact hb))))
  have hrps : ∀ x ∈ rest l1 q, x.sp.length ≤ 1000000 := fun x hx => Sq.sp_of_core HC1.out (N := 1000000) (fun k hk => by
    obtain ⟨y, hy, rfl⟩ := List.mem_map.1 hk
    exact HPS.out y hy) x ((List.mem_filter.1 hx).1)
  have hrl : (rest l1 q).length ≤ 1000000 := Nat.le_trans (List.length_filter_le _ _) (by rw [HL1.out]; exact hl)
  have X1 := hid (spans_any (p := (· < W.heap.size)) (.slice a l.length cap) l w2 (HH.out.below hb2 (fun _ h => h)) (fun b hb => Nat.lt_of_lt_of_le hb hb2.size) hl HPS.out)
  have X2 := hid (fun w3 (hb3 : Below w2.heap.size w2 w3) => spans_any (p := fun b => w0.heap.size ≤ b ∧ b < w2.heap.size) (.slice a1 (rest l1 q).length cap1) (rest l1 q) w3 ((RowsOf.of_owns Sq.enc_length hown2.out).below hb3 (fun b h => h.2)) (fun b hb => Nat.lt_of_lt_of_le hb.2 hb3.size) hrl hrps)
  have ht1 := Sq.total_le HPS.out
  have ht2 := Sq.total_le hrps
  clear ho2 hown2 hb01 hb2 hrps HD HH HA HPS HC1 HCP HO0 HL1 HB0 HB1 HK0
  generalize total l = T1 at *
  generalize total (rest l1 q) = T2 at *
  generalize (rest l1 q).length = n2 at *
  have hw : IntKind.i64.wrap ((T1 : Int) - (T2 : Int)) = (T1 : Int) - (T2 : Int) := by rw [IntKind.wrap_i64]; omega
  go_wp2_with fail
  refine X1.out.mono ?_
  rintro e w3 ⟨rfl, hb3⟩
  have X3 := hid (X2.out _ hb3)
  have HB3 := hid hb3
  clear hb3 X1 X2
  go_wp2_with fail
  refine X3.out.mono ?_
  rintro e w4 ⟨rfl, hb4⟩
  have HF := hid (hfin.out w4 (HB3.out.trans (hb4.mono HB3.out.size)))
  clear hb4 X3 hfin HB3
  go_wp2_with fail
  go_ret2
  exact ⟨_, rfl, HF.out⟩
theorem ack_of {W : World} {cl : List Sq} {a : Option Addr} {n cap : Nat} {w : World} (h : FR W cl a n cap w) (q : Int) (hl : cl.length ≤ 1000) (hs : ∀ k ∈ cl, k.sp.length ≤ 1000000) :
    Calls Try.prog 32 #[.slice a n cap, .int .i64 q] w (Ret (AckQ w cl q)) := by
  obtain ⟨l1, h1, h2, _, h4, h5⟩ := h
  have hl1 : l1.length = cl.length := by rw [← h2, List.length_map]
  subst h1
  have hps := Sq.sp_of_core h2 hs
  rw [← h2]
  exact ack_any a cap l1 q w h4 (by omega) h5 hps
theorem spans_of {W : World} {cl : List Sq} {a : Option Addr} {n cap : Nat} {w : World} (h : FR W cl a n cap w) (hl : cl.length ≤ 1000) (hs : ∀ k ∈ cl, k.sp.length ≤ 1000000) :
    Calls Try.prog 35 #[.slice a n cap] w fun e w' => e = .returned (.int .i64 (total cl : Nat)) ∧ Below w.heap.size w w' := by
  obtain ⟨l1, h1, h2, _, h4, h5⟩ := h
  have hl1 : l1.length = cl.length := by rw [← h2, List.length_map]
  have hps := Sq.sp_of_core h2 hs
  rw [← h2, Sq.total_core]
  exact spans_any _ l1 w h4 (fun _ h => h) (by omega) hps
end C26
end Go.Proofs.Ytcohcanakicmpaa
namespace Go.Peri
namespace Sq
open Go.RowKit
deriving instance DecidableEq for Sq
/-- The batch alone. -/
def benc (k : Sq) : List Value := [.int .i64 k.node, .int .i64 k.seq, .slice k.pa k.sp.length k.pcap]
def bk (k : Sq) : Int × Int × List Sp := (k.node, k.seq, k.sp)
theorem bk_iff (x y : Sq) : bk x = bk y ↔ x.node = y.node ∧ x.seq = y.seq ∧ x.sp = y.sp := by simp [bk]
theorem core_bk (x y : Sq) : x.core = y.core ↔ bk x = bk y ∧ x.tries = y.tries ∧ x.due = y.due := by
  constructor
  · intro h
    have := core_eq h
    exact ⟨(bk_iff x y).2 ⟨this.1, this.2.1, this.2.2.1⟩, this.2.2.2.1, this.2.2.2.2⟩
  · rintro ⟨h1, h2, h3⟩
    have := (bk_iff x y).1 h1
    exact core_of this.1 this.2.1 this.2.2 h2 h3
theorem bcells {y : Sq} {w : World} {b o : Nat} (h : ∀ j u, y.benc[j]? = some u → w.cell? ⟨b, o + j, none⟩ = some u) :
    w.cell? ⟨b, o, none⟩ = some (.int .i64 y.node) ∧ w.cell? ⟨b, o + 1, none⟩ = some (.int .i64 y.seq) ∧ w.cell? ⟨b, o + 2, none⟩ = some (.slice y.pa y.sp.length y.pcap) :=
  ⟨h 0 _ rfl, h 1 _ rfl, h 2 _ rfl⟩
theorem bne_ne {a b : Int} (h : (a != b) = true) : a ≠ b := by simpa using h
theorem bne_eq {a b : Int} (h : (a != b) = false) : a = b := by simpa using h
end Sq
end Go.Peri
namespace Go.Proofs.Ytcohcanakicmpaa
open Go.RowKit Go.Peri
namespace C26
open C30 (ssame_any)
open Sq (rest ixQ atQ total bk benc)
end C26
end Go.Proofs.Ytcohcanakicmpaa
namespace Go.Proofs.Ytcohcanakicmpaa
open Go.RowKit Go.Peri
open Gen (flat_set set_mid get_mid map_take_snoc owns_at owns_num owns_le owns_below owns_form)
namespace C26
open Sq (rest ixQ atQ total bk benc)
/-- A time that may be. -/
def clk (n : Int) : Int := max 0 (min n 1099511627776)
def dueI (n r : Int) : Int := clk n + max 1 (min r 8)
set_option maxRecDepth 100000 in
theorem clock_any (n : Int) (W : World) : Calls Try.prog 77 #[.int .i64 n] W fun e w' => e = .returned (.int .i64 (clk n)) ∧ W = w' := by
  go_enter Try.func77, Try.ntmps77
  go_wp2_with fail
  go_ret
  exact ⟨rfl, rfl⟩
set_option maxRecDepth 100000 in
theorem due_any (n r : Int) (W : World) : Calls Try.prog 79 #[.int .i64 n, .int .i64 r] W fun e w' => e = .returned (.int .i64 (dueI n r)) ∧ W = w' := by
  have HC := hid (clock_any n W)
  have hw : IntKind.i64.wrap (clk n + max 1 (min r 8)) = clk n + max 1 (min r 8) := by rw [IntKind.wrap_i64]; unfold clk; omega
  obtain ⟨c, hc⟩ : ∃ c, clk n = c := ⟨_, rfl⟩
  have HD : Hid (dueI n r = c + max 1 (min r 8)) := hid (by unfold dueI; rw [hc])
  rw [hc] at HC hw
  clear hc
  go_enter Try.func79, Try.ntmps79
  go_wp2_with fail
  refine HC.out.mono ?_
  rintro e w1 ⟨rfl, rfl⟩
  go_wp2_with fail
  go_ret
  exact ⟨by rw [HD.out]; rfl, rfl⟩
set_option maxRecDepth 100000 in
theorem copied_nil (W : World) : Calls Try.prog 62 #[.slice none 0 0] W fun e w' => e = .returned (.slice none 0 0) ∧ W = w' := by
  have HC : Hid (Calls Try.prog 38 #[.slice none 0 0] W fun e w' => e = .returned (.slice none 0 0) ∧ W = w') := hid (by
    have qnil : ∀ (w : World) (a : Option Addr) (n c : Nat), (binOp .eql 52 (.slice a n c) (.slice none 0 0)).run Try.prog w = .ok (.bool a.isNone) w := fun w a n c => Lib.run_eql_slice_nil w 52 93 a n c 0 0 Try.underlying52
    go_enter Try.func38, Try.ntmps38
    go_wp2_with fail
    go_ret
    exact ⟨rfl, rfl⟩)
  go_enter Try.func62, Try.ntmps62
  go_wp2_with fail
  refine HC.out.mono ?_
  rintro e w1 ⟨rfl, rfl⟩
  go_wp2_with fail
  go_loopw [10] (fun i wr => i = .int .i64 0 ∧ W = wr) (fun _ _ => 0)
  case atStart => exact ⟨rfl, rfl⟩
  case round =>
    obtain ⟨rfl, rfl⟩ := hrel
    go_wp2_with fail
    go_ret
    exact ⟨rfl, rfl⟩
/-- One batch under way. -/
def OneQ (W : World) (y : Sq) (v : Value) (w' : World) : Prop := ∃ a cap, v = .slice a 1 cap ∧ FR W [y] a 1 cap w'
theorem one_fin {W w1 w' : World} {base base2 : Nat} {v : Value} {k : Sq} {y : Sq} (hb1 : Below W.heap.size W w1) (hk : OwnK base2 w1 k) (hown : w'.ownsRow base 93 5 v 1 (Sq.enc k)) (hb : Below base w1 w') (hB : w1.heap.size ≤ base) (hy : k.core = y) : OneQ W y v w' := by
  obtain ⟨a, cap, rfl⟩ := Gen.owns_form hown
  have hbb : Below w1.heap.size w1 w' := hb.mono hB
  refine ⟨a, cap, rfl, [k], rfl, by rw [List.map_singleton, hy], hb1.trans (hbb.mono hb1.size), RowsOf.imp (rows_len (n := 1) rfl (RowsOf.of_owns (l := [k]) Sq.enc_length (by simpa using hown))) (fun b hb => hb.2), fun x hx => ?_⟩
  rw [List.mem_singleton.1 hx]
  exact RowsOf.imp (RowsOf.of_owns Sp.enc_length (owns_below hk hbb)) (fun b hb => hb.2)
set_option maxRecDepth 100000 in
set_option maxHeartbeats 8000000 in
theorem send_nil (k : Sq) (now retry : Int) (W : World) (h : k.At (· < W.heap.size) W) (hl : k.sp.length ≤ 1000000) :
    Calls Try.prog 81 #[.slice none 0 0, .agg #[.int .i64 k.node, .int .i64 k.seq, .slice k.pa k.sp.length k.pcap], .int .i64 now, .int .i64 retry] W (Ret (OneQ W { k.core with tries := 1, due := dueI now retry })) := by
  have HAT := hid h
  clear h
  go_enter Try.func81, Try.ntmps81
  go_upto_region 1 with fail
  refine wp_genF ?_
  intro w1 hw1
  have hb1 : Below W.heap.size W w1 := by rw [hw1]; go_grown
  have hk1 : Blk w1 W.heap.size #[.int .i64 k.node, .int .i64 k.seq, .slice k.pa k.sp.length k.pcap] 45 := by rw [hw1]; exact Blk.new _ _ _
  clear hw1
  have HB1 := hid hb1
  have HK1 := hid hk1
  have hlt := hk1.lt
  have KEEP : Hid (∀ w', Below w1.heap.size w1 w' → w'.cell? ⟨W.heap.size, 0, none⟩ = some (.int .i64 k.node) ∧ w'.cell? ⟨W.heap.size, 1, none⟩ = some (.int .i64 k.seq) ∧ w'.cell? ⟨W.heap.size, 2, none⟩ = some (.slice k.pa k.sp.length k.pcap)) := hid (fun w' hb => ⟨(HK1.out.later hb).cell 0, (HK1.out.later hb).cell 1, (HK1.out.later hb).cell 2⟩)
  have XC := hid (fun w' => copied_nil w')
  have XO : Hid (∀ w', Below w1.heap.size w1 w' → Calls Try.prog 78 #[.agg #[.int .i64 k.node, .int .i64 k.seq, .slice k.pa k.sp.length k.pcap]] w' fun e w'' => ∃ pa pcap, e = .returned (.agg #[.int .i64 k.node, .int .i64 k.seq, .slice pa k.sp.length pcap]) ∧ Below w1.heap.size w1 w'' ∧ Hid (OwnK w1.heap.size w'' { k with pa := pa, pcap := pcap })) := hid (fun w' hb => by
    refine (own_any (p := (· < W.heap.size)) k w' (HAT.out.below (HB1.out.trans (hb.mono HB1.out.size)) (fun _ h => h)) (fun b hb' => Nat.lt_of_lt_of_le hb' (HB1.out.trans (hb.mono HB1.out.size)).size) hl).mono ?_
    rintro e w'' ⟨v, rfl, pa, pcap, rfl, hb2, ho⟩
    exact ⟨pa, pcap, rfl, hb.trans (hb2.mono hb.size), ho.le hb.size⟩)
  have XD := hid (fun w' => due_any now retry w')
  obtain ⟨dd, hdd⟩ : ∃ d, dueI now retry = d := ⟨_, rfl⟩
  rw [hdd] at XD
  have HDD := hid hdd
  clear hdd hb1 hk1
  obtain ⟨z0, z1, z2⟩ := KEEP.out w1 (Below.refl _ _)
  have h63 : 0 + 1 ≤ maxLen := by decide
  have hby : (0 + 1) * 56 ≤ 140737488355328 := by decide
  go_wp2_with fail
  refine wp_region_held_drew (S := (fun w' => w'.cell? ⟨W.heap.size, 0, none⟩ = some (.int .i64 k.node) ∧ w'.cell? ⟨W.heap.size, 1, none⟩ = some (.int .i64 k.seq) ∧ w'.cell? ⟨W.heap.size, 2, none⟩ = some (.slice k.pa k.sp.length k.pcap))) (by kernel_rfl) (by (refine KEEP.out _ ?_; (repeat' (first | assumption | (with_reducible exact Below.refl _ _) | (with_reducible refine Below.drew ?_) | (with_reducible refine Below.alloc ?_ (by first | exact Nat.le_refl _ | (exact Below.size (by assumption)) | (simp; done) | (simp; omega)) _))))) (fun hHeld => ?_)
  refine wpAnyH_take (i := 0) (oi := ⟨_, _, _, _, _, _⟩) (v := ?_) rfl (by kernel_rfl) (by kernel_rfl) (by kernel_rfl) (fun _ _ _ h => h) (Or.inl ⟨by rfl, ?_⟩) hHeld ?_
  rotate_left
  · (intro w hSw; (try dsimp only at hSw); go_simp) <;> with_reducible rfl
  try simp only [Act.put, List.setIfInBounds_toArray, List.set_cons_zero, List.set_cons_succ]
  refine wpAnyH_take (i := 2) (oi := ⟨_, _, _, _, _, _⟩) (v := ?_) rfl (by kernel_rfl) (by kernel_rfl) (by kernel_rfl) (fun _ _ _ h => h) (Or.inl ⟨by rfl, ?_⟩) hHeld ?_
  rotate_left
  · (intro w hSw; (try dsimp only at hSw); go_simp) <;> with_reducible rfl
  try simp only [Act.put, List.setIfInBounds_toArray, List.set_cons_zero, List.set_cons_succ]
  refine wpAnyH_take (i := 4) (oi := ⟨_, _, _, _, _, _⟩) (v := ?_) rfl (by kernel_rfl) (by kernel_rfl) (by kernel_rfl) (fun _ _ _ h => h) (Or.inl ⟨by rfl, ?_⟩) hHeld ?_
  rotate_left
  · (intro w hSw; (try dsimp only at hSw); go_simp) <;> with_reducible rfl
  try simp only [Act.put, List.setIfInBounds_toArray, List.set_cons_zero, List.set_cons_succ]
  refine wpAnyH_take (i := 5) (oi := ⟨_, _, _, _, _, _⟩) (v := ?_) rfl (by kernel_rfl) (by kernel_rfl) (by kernel_rfl) (fun _ _ _ h => h) (Or.inl ⟨by rfl, ?_⟩) hHeld ?_
  rotate_left
  · (intro w hSw; (try dsimp only at hSw); go_simp) <;> with_reducible rfl
  try simp only [Act.put, List.setIfInBounds_toArray, List.set_cons_zero, List.set_cons_succ]
  refine wpAnyH_ready (rs := [1]) (by kernel_rfl) (by simp) ?_
  refine AllReadyH.cons (o := ⟨_, _, _, _, _, _⟩) rfl (fun K hK => ?_) AllReadyH.nil
  clear hHeld
  go_simp
  go_at_call 62
  refine (XC.out _).mono ?_
  rintro e w' ⟨rfl, rfl⟩
  refine hK.out _ _ (by (refine KEEP.out _ ?_; (repeat' (first | assumption | (with_reducible exact Below.refl _ _) | (with_reducible refine Below.drew ?_) | (with_reducible refine Below.alloc ?_ (by first | exact Nat.le_refl _ | (exact Below.size (by assumption)) | (simp; done) | (simp; omega)) _))))) (fun hHeld => ?_)
  clear hK K
  try simp only [Act.put, List.setIfInBounds_toArray, List.set_cons_zero, List.set_cons_succ]
  refine wpAnyH_ready (rs := [3]) (by kernel_rfl) (by simp) ?_
  refine AllReadyH.cons (o := ⟨_, _, _, _, _, _⟩) rfl (fun K hK => ?_) AllReadyH.nil
  clear hHeld
  go_simp
  go_at_call 78
  refine (XO.out _ (by first | assumption | exact Below.refl _ _ | exact (Below.refl _ _).drew)).mono ?_
  rintro e w3 ⟨pa, pcap, rfl, hB3, hO3⟩
  refine hK.out _ _ (by (refine KEEP.out _ ?_; (repeat' (first | assumption | (with_reducible exact Below.refl _ _) | (with_reducible refine Below.drew ?_) | (with_reducible refine Below.alloc ?_ (by first | exact Nat.le_refl _ | (exact Below.size (by assumption)) | (simp; done) | (simp; omega)) _))))) (fun hHeld => ?_)
  clear hK K
  try simp only [Act.put, List.setIfInBounds_toArray, List.set_cons_zero, List.set_cons_succ]
  refine wpAnyH_ready (rs := [6]) (by kernel_rfl) (by simp) ?_
  refine AllReadyH.cons (o := ⟨_, _, _, _, _, _⟩) rfl (fun K hK => ?_) AllReadyH.nil
  clear hHeld
  go_simp
  go_at_call 79
  refine (XD.out _).mono ?_
  rintro e w' ⟨rfl, rfl⟩
  refine hK.out _ _ (by (refine KEEP.out _ ?_; (repeat' (first | assumption | (with_reducible exact Below.refl _ _) | (with_reducible refine Below.drew ?_) | (with_reducible refine Below.alloc ?_ (by first | exact Nat.le_refl _ | (exact Below.size (by assumption)) | (simp; done) | (simp; omega)) _))))) (fun hHeld => ?_)
  clear hK K
  try simp only [Act.put, List.setIfInBounds_toArray, List.set_cons_zero, List.set_cons_succ]
  refine wpAnyH_take (i := 7) (oi := ⟨_, _, _, _, _, _⟩) (v := ?_) rfl (by kernel_rfl) (by kernel_rfl) (by kernel_rfl) (fun _ _ _ h => h) (Or.inl ⟨by rfl, ?_⟩) hHeld ?_
  rotate_left
  · (intro w hSw; (try dsimp only at hSw); go_simp) <;> with_reducible rfl
  try simp only [Act.put, List.setIfInBounds_toArray, List.set_cons_zero, List.set_cons_succ]
  refine wpAnyH_ready (rs := [8]) (by kernel_rfl) (by simp) ?_
  refine AllReadyH.cons (o := ⟨_, _, _, _, _, _⟩) rfl (fun K hK => ?_) AllReadyH.nil
  clear hHeld
  go_simp
  refine hK.out _ _ (by (refine KEEP.out _ ?_; (repeat' (first | assumption | (with_reducible exact Below.refl _ _) | (with_reducible refine Below.drew ?_) | (with_reducible refine Below.alloc ?_ (by first | exact Nat.le_refl _ | (exact Below.size (by assumption)) | (simp; done) | (simp; omega)) _))))) (fun hHeld => ?_)
  clear hK K
  try simp only [Act.put, List.setIfInBounds_toArray, List.set_cons_zero, List.set_cons_succ]
  refine wpAnyH_ready (rs := [9]) (by kernel_rfl) (by simp) ?_
  refine AllReadyH.cons (o := ⟨_, _, _, _, _, _⟩) rfl (fun K hK => ?_) AllReadyH.nil
  clear hHeld
  refine step_push elemQ rfl (.tmp 10) (.tmp 17) rfl w3.heap.size (.slice none 0 0) 0 [] (Sq.enc { k with pa := pa, pcap := pcap, tries := 1, due := dd }) (by simp [Act.eval]) (World.ownsRow_nil _ _ _ _) (w0 := w3) rfl (by simp [Act.eval]) rfl (by simp [Sq.enc, Value.oneCell']) h63 hby (Nat.le_refl _) ?_
  intro v4 w4 hown4 hb4
  have hB4 : Below w1.heap.size w1 w4 := hB3.trans (hb4.mono hB3.size)
  refine hK.out _ _ (by (refine KEEP.out _ ?_; (repeat' (first | assumption | (with_reducible exact Below.refl _ _) | (with_reducible refine Below.drew ?_) | (with_reducible refine Below.alloc ?_ (by first | exact Nat.le_refl _ | (exact Below.size (by assumption)) | (simp; done) | (simp; omega)) _))))) (fun hHeld => ?_)
  clear hK K
  try simp only [Act.put, List.setIfInBounds_toArray, List.set_cons_zero, List.set_cons_succ]
  refine wpAnyH_take (i := 10) (oi := ⟨_, _, _, _, _, _⟩) (v := ?_) rfl (by kernel_rfl) (by kernel_rfl) (by kernel_rfl) (fun _ _ _ h => h) (Or.inl ⟨by rfl, ?_⟩) hHeld ?_
  rotate_left
  · (intro w hSw; (try dsimp only at hSw); go_simp) <;> with_reducible rfl
  try simp only [Act.put, List.setIfInBounds_toArray, List.set_cons_zero, List.set_cons_succ]
  refine wpAnyH_done (by kernel_rfl) ?_ _
  skip
  · have HF := hid (show OneQ W { k.core with tries := 1, due := dd } v4 w4 from one_fin (k := { k with pa := pa, pcap := pcap, tries := 1, due := dd }) (HB1.out.trans (hB3.mono HB1.out.size)) hO3.out (by simpa using hown4) hb4 (Nat.le_refl _) rfl)
    clear hB4 hown4 hb4
    go_wp2_with fail
    go_ret
    exact ⟨_, rfl, by rw [HDD.out]; exact HF.out⟩
end C26
end Go.Proofs.Ytcohcanakicmpaa
namespace Go.Proofs.Ytcohcanakicmpaa
open Go.RowKit Go.Peri
open Gen (flat_set set_mid get_mid map_take_snoc owns_at owns_num owns_le owns_below owns_form)
namespace C26
open Sq (rest ixQ atQ total bk benc)
theorem elemB : Elem Try.prog 77 45 3 40 := Elem.mk' (z := .agg #[.int .i64 0, .int .i64 0, .slice none 0 0]) Try.underlying77 (by kernel_rfl) rfl (by decide)
/-- What the closure holds: the time, when again, how often; what is sent again, what is given up. -/
structure Caps (w : World) (B : Nat) (now retry tries : Int) (ag gv : Value) : Prop where
  now : Blk w B #[.int .i64 now] 3
  retry : Blk w (B + 1) #[.int .i64 retry] 3
  tries : Blk w (B + 2) #[.int .i64 tries] 3
  ag : Blk w (B + 3) #[ag] 77
  gv : Blk w (B + 4) #[gv] 77
theorem Caps.later {w w' : World} {B : Nat} {now retry tries : Int} {ag gv : Value} (h : Caps w B now retry tries ag gv) (hb : Below w.heap.size w w') : Caps w' B now retry tries ag gv := ⟨h.now.later hb, h.retry.later hb, h.tries.later hb, h.ag.later hb, h.gv.later hb⟩
theorem Caps.lt {w : World} {B : Nat} {now retry tries : Int} {ag gv : Value} (h : Caps w B now retry tries ag gv) : B + 4 < w.heap.size := h.gv.lt
theorem Caps.only {w w' : World} {S : List Nat} {B : Nat} {now retry tries : Int} {ag gv : Value} (h : Caps w B now retry tries ag gv) (ho : Only S w w') (hs : ∀ b, b ∈ S → b < B ∨ B + 4 < b) : Caps w' B now retry tries ag gv :=
  ⟨h.now.only ho (fun hm => by have := hs _ hm; omega), h.retry.only ho (fun hm => by have := hs _ hm; omega), h.tries.only ho (fun hm => by have := hs _ hm; omega), h.ag.only ho (fun hm => by have := hs _ hm; omega), h.gv.only ho (fun hm => by have := hs _ hm; omega)⟩
theorem Caps.setGv {w : World} {B : Nat} {now retry tries : Int} {ag gv : Value} (h : Caps w B now retry tries ag gv) (v : Value) : Caps (w.setCell ⟨B + 4, 0, none⟩ v) B now retry tries ag v :=
  have ho : Only [B + 4] w (w.setCell ⟨B + 4, 0, none⟩ v) := (Only.refl _ _).setCell (by simp) _
  ⟨h.now.only ho (by simp), h.retry.only ho (by simp), h.tries.only ho (by simp), h.ag.only ho (by simp), h.gv.set 0 v⟩
theorem Caps.setAg {w : World} {B : Nat} {now retry tries : Int} {ag gv : Value} (h : Caps w B now retry tries ag gv) (v : Value) : Caps (w.setCell ⟨B + 3, 0, none⟩ v) B now retry tries v gv :=
  have ho : Only [B + 3] w (w.setCell ⟨B + 3, 0, none⟩ v) := (Only.refl _ _).setCell (by simp) _
  ⟨h.now.only ho (by simp), h.retry.only ho (by simp), h.tries.only ho (by simp), h.ag.set 0 v, h.gv.only ho (by simp)⟩
/-- A row of one batch. -/
def BAt (w : World) (q : Int × Int × List Sp) (v : Value) : Prop := ∃ (a : Option Addr) (cap : Nat) (k : Sq), v = .slice a 1 cap ∧ bk k = q ∧ RowsOf (· < w.heap.size) benc 3 w (.slice a 1 cap) [k] ∧ k.At (· < w.heap.size) w
theorem BAt.later {w w' : World} {q : Int × Int × List Sp} {v : Value} (h : BAt w q v) (hb : Below w.heap.size w w') : BAt w' q v := by
  obtain ⟨a, cap, k, h0, h1, h2, h3⟩ := h
  exact ⟨a, cap, k, h0, h1, (RowsOf.below h2 hb (fun _ h => h)).imp (fun b h => Nat.lt_of_lt_of_le h hb.size), (h3.below hb (fun _ h => h)).imp (fun b h => Nat.lt_of_lt_of_le h hb.size)⟩
set_option maxRecDepth 100000 in
set_option maxHeartbeats 4000000 in
theorem litA (x : Sq) (B : Nat) (now retry tries : Int) (ag gv : Value) (W : World) (h : Caps W B now retry tries ag gv) (hlt : clk now < x.due) :
    Calls Try.prog 76 #[.agg #[.int .i64 x.node, .int .i64 x.seq, .slice x.pa x.sp.length x.pcap, .int .i64 x.tries, .int .i64 x.due], .pointer (some ⟨B, 0, none⟩), .pointer (some ⟨B + 2, 0, none⟩), .pointer (some ⟨B + 4, 0, none⟩), .pointer (some ⟨B + 3, 0, none⟩), .pointer (some ⟨B + 1, 0, none⟩)] W fun e w' => e = .returned (.tuple #[.agg #[.int .i64 x.node, .int .i64 x.seq, .slice x.pa x.sp.length x.pcap, .int .i64 x.tries, .int .i64 x.due], .bool true]) ∧ Below W.heap.size W w' := by
  have HCP := hid h
  have hl4 := h.lt
  clear h
  go_enter Try.func76, Try.ntmps76
  go_upto_region 1 with fail
  refine wp_genF ?_
  intro w1 hw1
  have hb1 : Below W.heap.size W w1 := by rw [hw1]; go_grown
  have hk1 : Blk w1 W.heap.size #[.int .i64 x.node, .int .i64 x.seq, .slice x.pa x.sp.length x.pcap, .int .i64 x.tries, .int .i64 x.due] 93 := by rw [hw1]; exact (Blk.new _ _ _).alloc _
  have hk2 : Blk w1 (W.heap.size + 1) #[.int .i64 0, .int .i64 0, .slice none 0 0, .int .i64 0, .int .i64 0] 93 := by rw [hw1]; exact Blk.new' _ _ _ (by simp)
  clear hw1
  have HB1 := hid hb1
  have HK1 := hid hk1
  have HK2 := hid hk2
  have HC1 := hid (HCP.out.later hb1)
  obtain ⟨x0, x1, x2, x3, x4, -⟩ := blk5' hk1
  have c0 := HC1.out.now.cell 0
  simp only [List.getElem?_toArray, List.getElem?_cons_zero] at c0
  have hlx := hk1.lt
  have hlB : B < w1.heap.size := HC1.out.now.lt
  clear hb1 hk1 hk2
  have XC : Hid (∀ z : BW w1, Calls Try.prog 77 #[.int .i64 now] z.val fun e w' => e = .returned (.int .i64 (clk now)) ∧ z.val = w') := hid (fun z => clock_any now z.val)
  obtain ⟨cl, hcl⟩ : ∃ c, clk now = c := ⟨_, rfl⟩
  rw [hcl] at XC hlt
  clear hcl
  go_wp2_with fail
  refine wp_region_bw (by kernel_rfl) (by kernel_rfl) ?_
  repeat (go_big_quiet_step ((go_at_call 77; exact bw_same (XC.out _))))
  refine wpQuiet_nil ?_
  rintro w2 ⟨⟨_, hb2⟩, rfl⟩
  have HB2 := hid (HB1.out.trans (hb2.mono HB1.out.size))
  obtain ⟨u0, u1, u2, u3, u4, -⟩ := blk5' (HK1.out.later hb2)
  obtain ⟨y0, y1, y2, y3, y4, yf⟩ := blk5' (HK2.out.later hb2)
  have hl2 := (HK2.out.later hb2).lt
  clear hb2 x0 x1 x2 x3 x4 c0 XC hlx
  go_wp2_with fail
  refine bodyPost_ret (by simp [results, Try.results76, go_sem, y0, y1, y2, y3, y4]; try rfl) rfl ?_
  refine ⟨rfl, HB2.out.trans (Only.below (S := [W.heap.size + 1]) ?_ HB2.out.size (fun b hb => by simp at hb; omega))⟩
  iterate 5 (refine Only.setCell ?_ (by simp) _)
  exact Only.refl _ _
end C26
end Go.Proofs.Ytcohcanakicmpaa
namespace Go.Peri
theorem only_cutF {x : Nat} {F : List Nat} {w w' : World} (h : Only (x :: F) w w') (hx : w.heap.size ≤ x) : Only F w w' :=
  ⟨h.os, h.tape, h.output, h.size, fun k hk hf => h.block k hk (fun hm => (List.mem_cons.1 hm).elim (fun e => by omega) hf)⟩
end Go.Peri
namespace Go.Proofs.Ytcohcanakicmpaa
open Go.RowKit Go.Peri
open Gen (flat_set set_mid get_mid map_take_snoc owns_at owns_num owns_le owns_below owns_form)
namespace C26
open Sq (rest ixQ atQ total bk benc)
theorem benc_len (k : Sq) : (benc k).length = 3 := rfl
theorem bat_fin {w1 w' : World} {base : Nat} {v : Value} {k : Sq} (hk : k.At (· < w1.heap.size) w1) (hown : w'.ownsRow base 45 3 v 1 (benc k)) (hb : Below w1.heap.size w1 w') : BAt w' (bk k) v := by
  obtain ⟨a, cap, rfl⟩ := Gen.owns_form hown
  have hr : RowsOf (fun b => base ≤ b ∧ b < w'.heap.size) benc 3 w' (.slice a [k].length cap) [k] := RowsOf.of_owns (l := [k]) benc_len (by simpa using hown)
  exact ⟨a, cap, k, rfl, rfl, hr.imp (fun b hb => hb.2), (hk.below hb (fun _ h => h)).imp (fun b h => Nat.lt_of_lt_of_le h hb.size)⟩
theorem BAt.only {S : List Nat} {w w' : World} {base : Nat} {v : Value} {k : Sq} (hown : w.ownsRow base 45 3 v 1 (benc k)) (hk : k.At (fun b => b < w.heap.size ∧ b ∉ S) w) (ho : Only S w w') (hs : ∀ b, b ∈ S → b < base) : BAt w' (bk k) v := by
  have hd : Disj (blocks v) S := fun b hb hm => by
    have h1 := (owns_bd hown b hb).1
    have h2 := hs b hm
    omega
  obtain ⟨a, cap, rfl⟩ := Gen.owns_form hown
  have hr : RowsOf (fun b => base ≤ b ∧ b < w'.heap.size) benc 3 w' (.slice a [k].length cap) [k] := RowsOf.of_owns (l := [k]) benc_len (by simpa using owns_keep hown ho hd)
  exact ⟨a, cap, k, rfl, rfl, hr.imp (fun b hb => hb.2), (hk.only ho (fun b h => h)).imp (fun b h => Nat.lt_of_lt_of_le h.1 ho.size)⟩
set_option maxRecDepth 100000 in
set_option maxHeartbeats 4000000 in
theorem litB (x : Sq) (B : Nat) (now retry tries : Int) (ag : Value) (W : World) (h : Caps W B now retry tries ag (.slice none 0 0)) (hx : x.At (fun b => b < W.heap.size ∧ (b < B ∨ B + 4 < b)) W) (hge : ¬ clk now < x.due) (htr : tries ≤ x.tries) :
    Calls Try.prog 76 #[.agg #[.int .i64 x.node, .int .i64 x.seq, .slice x.pa x.sp.length x.pcap, .int .i64 x.tries, .int .i64 x.due], .pointer (some ⟨B, 0, none⟩), .pointer (some ⟨B + 2, 0, none⟩), .pointer (some ⟨B + 4, 0, none⟩), .pointer (some ⟨B + 3, 0, none⟩), .pointer (some ⟨B + 1, 0, none⟩)] W fun e w' => ∃ v, e = .returned (.tuple #[.agg #[.int .i64 x.node, .int .i64 x.seq, .slice x.pa x.sp.length x.pcap, .int .i64 x.tries, .int .i64 x.due], .bool false]) ∧ Only [B + 4] W w' ∧ Hid (Caps w' B now retry tries ag v ∧ BAt w' (bk x) v) := by
  have HCP := hid h
  have hl4 := h.lt
  have HX := hid hx
  clear h hx
  go_enter Try.func76, Try.ntmps76
  go_upto_region 1 with fail
  refine wp_genF ?_
  intro w1 hw1
  have hb1 : Below W.heap.size W w1 := by rw [hw1]; go_grown
  have hk1 : Blk w1 W.heap.size #[.int .i64 x.node, .int .i64 x.seq, .slice x.pa x.sp.length x.pcap, .int .i64 x.tries, .int .i64 x.due] 93 := by rw [hw1]; exact (Blk.new _ _ _).alloc _
  have hk2 : Blk w1 (W.heap.size + 1) #[.int .i64 0, .int .i64 0, .slice none 0 0, .int .i64 0, .int .i64 0] 93 := by rw [hw1]; exact Blk.new' _ _ _ (by simp)
  clear hw1
  have HB1 := hid hb1
  have HK1 := hid hk1
  have HK2 := hid hk2
  have HC1 := hid (HCP.out.later hb1)
  obtain ⟨x0, x1, x2, x3, x4, -⟩ := blk5' hk1
  have c0 := HC1.out.now.cell 0
  simp only [List.getElem?_toArray, List.getElem?_cons_zero] at c0
  have hlx := hk1.lt
  have hlB : B < w1.heap.size := HC1.out.now.lt
  clear hb1 hk1 hk2
  have XC : Hid (∀ z : BW w1, Calls Try.prog 77 #[.int .i64 now] z.val fun e w' => e = .returned (.int .i64 (clk now)) ∧ z.val = w') := hid (fun z => clock_any now z.val)
  obtain ⟨cl, hcl⟩ : ∃ c, clk now = c := ⟨_, rfl⟩
  rw [hcl] at XC hge
  clear hcl
  have hltf : ¬ cl < x.due := hge
  go_wp2_with fail
  refine wp_region_bw (by kernel_rfl) (by kernel_rfl) ?_
  repeat (go_big_quiet_step ((go_at_call 77; exact bw_same (XC.out _))))
  refine wpQuiet_nil ?_
  rintro w2 ⟨⟨_, hb2⟩, rfl⟩
  have HB2 := hid (HB1.out.trans (hb2.mono HB1.out.size))
  have HK3 := hid (HK1.out.later hb2)
  have HR3 := hid (HK2.out.later hb2)
  have HC2 := hid (HC1.out.later hb2)
  have hl2 := (HK2.out.later hb2).lt
  clear hb2 x0 x1 x2 x3 x4 c0 XC hlx HK1 HK2 HC1 HB1 hlB
  obtain ⟨x0, x1, x2, x3, x4, -⟩ := blk5' HK3.out
  have g0 : w2.cell? ⟨B + 4, 0, none⟩ = some (.slice none 0 0) := HC2.out.gv.cell 0
  have t0 : w2.cell? ⟨B + 2, 0, none⟩ = some (.int .i64 tries) := HC2.out.tries.cell 0
  have hgl : B + 4 < w2.heap.size := HC2.out.lt
  have h63 : 0 + 1 ≤ maxLen := by decide
  have hby : (0 + 1) * 40 ≤ 140737488355328 := by decide
  go_upto_region 5 with (at_builtin; refine wpList_push (w0 := w2) (T := 45) (news := benc x) elemB rfl _ _ rfl w2.heap.size (.slice none 0 0) 0 [] rfl (World.ownsRow_nil _ _ _ _) rfl rfl rfl (by simp [Sq.benc, Value.oneCell']) h63 hby (Nat.le_refl _) ?_; intro v3' w3 hown3 hb3; obtain ⟨a3, cap3, rfl⟩ := Gen.owns_form hown3; have g3 : w3.cell? ⟨B + 4, 0, none⟩ = some (.slice none 0 0) := (HC2.out.later hb3).gv.cell 0; have gf3 : w3.frozen? ⟨B + 4, 0, none⟩ = false := (HC2.out.later hb3).gv.free 0; have HB3 := hid hb3; have HO3 := hid hown3; clear hb3 hown3)
  refine wp_genF ?_
  intro w4 hw4
  have ho4 : Only [B + 4] w3 w4 := by rw [hw4]; exact (Only.refl _ _).setCell (by simp) _
  have hc4 : Caps w4 B now retry tries ag (.slice a3 1 cap3) := by rw [hw4]; exact (HC2.out.later HB3.out).setGv _
  have hk4 : Blk w4 W.heap.size #[.int .i64 x.node, .int .i64 x.seq, .slice x.pa x.sp.length x.pcap, .int .i64 x.tries, .int .i64 x.due] 93 := (HK3.out.later HB3.out).only ho4 (by simp; omega)
  have hr4 : Blk w4 (W.heap.size + 1) #[.int .i64 0, .int .i64 0, .slice none 0 0, .int .i64 0, .int .i64 0] 93 := (HR3.out.later HB3.out).only ho4 (by simp; omega)
  clear hw4
  have HO4 := hid ho4
  have HC4 := hid hc4
  clear x0 x1 x2 x3 x4 g0 t0 g3 gf3
  obtain ⟨x0, x1, x2, x3, x4, -⟩ := blk5' hk4
  obtain ⟨y0, y1, y2, y3, y4, yf⟩ := blk5' hr4
  have hl5 := hr4.lt
  have hlx := hk4.lt
  have HL4 := hid hl4
  clear ho4 hc4 hk4 hr4 HK3 HR3 hl4 hgl
  have HFIN : Hid (∀ w', Only [W.heap.size + 1] w4 w' → Only [B + 4] W w' ∧ Hid (Caps w' B now retry tries ag (.slice a3 1 cap3) ∧ BAt w' (bk x) (.slice a3 1 cap3))) := hid (fun w' ho => by
    have hb12 : Below W.heap.size W w3 := HB2.out.trans (HB3.out.mono HB2.out.size)
    have h4 := HL4.out
    have ho5 : Only [W.heap.size + 1, B + 4] w3 w' := (HO4.out.mono (by simp)).trans (ho.mono (by simp))
    refine ⟨only_cutF ((Only.of_below hb12).trans ho5) (by omega), hid ⟨HC4.out.only ho (fun b hb => by simp at hb; omega), ?_⟩⟩
    have hbw : W.heap.size + 1 < w2.heap.size := hl2
    refine BAt.only HO3.out ?_ ho5 (fun b hb => by simp at hb; omega)
    exact (HX.out.below hb12 (fun b h => h.1)).imp (fun b h => ⟨Nat.lt_of_lt_of_le h.1 hb12.size, by simp; omega⟩))
  clear HX HCP HB2 HB3 HO3 HO4 HC4 HC2
  go_wp2_with fail
  refine bodyPost_ret (by simp [results, Try.results76, go_sem, y0, y1, y2, y3, y4]; try rfl) rfl ?_
  refine ⟨_, rfl, HFIN.out _ ?_⟩
  iterate 5 (refine Only.setCell ?_ (by simp) _)
  exact Only.refl _ _
end C26
end Go.Proofs.Ytcohcanakicmpaa
