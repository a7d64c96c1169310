/- Walks of layer 26 (flight): batches under way cloned, owned, copied; no condition. -/
import Derived.Test.YtdamnbldimompaaC30
import Derived.Test.YtdamnbldimompaaSq
import Derived.Test.YtdamnbldimompaaRv
import Derived.Deep.Cut
namespace Go.Peri
open Go.RowKit
theorem blk3' {w : World} {g t : Nat} {a0 a1 a2 : Value} (h : Blk w g #[a0, a1, a2] t) :
    w.cell? ⟨g, 0, none⟩ = some a0 ∧ w.cell? ⟨g, 1, none⟩ = some a1 ∧ w.cell? ⟨g, 2, none⟩ = some a2 ∧ ∀ i, w.frozen? ⟨g, i, none⟩ = false :=
  ⟨h.cell 0, h.cell 1, h.cell 2, h.free⟩
theorem blk5' {w : World} {g t : Nat} {a0 a1 a2 a3 a4 : Value} (h : Blk w g #[a0, a1, a2, a3, a4] t) :
    w.cell? ⟨g, 0, none⟩ = some a0 ∧ w.cell? ⟨g, 1, none⟩ = some a1 ∧ w.cell? ⟨g, 2, none⟩ = some a2 ∧ w.cell? ⟨g, 3, none⟩ = some a3 ∧ w.cell? ⟨g, 4, none⟩ = some a4 ∧ ∀ i, w.frozen? ⟨g, i, none⟩ = false :=
  ⟨h.cell 0, h.cell 1, h.cell 2, h.cell 3, h.cell 4, h.free⟩
/-- The batch of an element stored: three cells. -/
theorem Sq.flat_set3 (x : Sq) : ∀ (l : List Sq) (i : Nat) (hi : i < l.length), l[i].tries = x.tries → l[i].due = x.due → (((l.flatMap Sq.enc).set (i * 5) (.int .i64 x.node)).set (i * 5 + 1) (.int .i64 x.seq)).set (i * 5 + 2) (.slice x.pa x.sp.length x.pcap) = (l.set i x).flatMap Sq.enc
  | y :: l, 0, _, h1, h2 => by
    simp only [List.getElem_cons_zero] at h1 h2
    simp [Sq.enc, h1, h2]
  | y :: l, i + 1, h, h1, h2 => by
    have ih := Sq.flat_set3 x l i (by simpa using h) (by simpa using h1) (by simpa using h2)
    rw [List.set_cons_succ, List.flatMap_cons, List.flatMap_cons, ← ih, show (i + 1) * 5 = i * 5 + 5 by omega]
    simp [Sq.enc]
end Go.Peri
namespace Go.Proofs.Ytdamnbldimompaa
open Go.RowKit Go.Peri
open Gen (flat_set set_mid get_mid map_take_snoc owns_at owns_num owns_le owns_below owns_form)
namespace C26
open C30 (elemS sclone_any ssame_any addr_add)
theorem elemQ : Elem Try.prog 44 62 5 56 := Elem.mk' (z := .agg #[.int .i64 0, .int .i64 0, .slice none 0 0, .int .i64 0, .int .i64 0]) Try.underlying44 (by kernel_rfl) rfl (by decide)
set_option maxRecDepth 100000 in
theorem qclone_any {p : Nat → Prop} (v : Value) (l : List Sq) (W : World) (h : RowsOf p Sq.enc 5 W v l) (hp : ∀ b, p b → b < W.heap.size) (hl : l.length ≤ 1000000) :
    Calls Try.prog 49 #[v] W fun e w' => ∃ a cap, e = .returned (.slice a l.length cap) ∧ Below W.heap.size W w' ∧ Hid (w'.ownsRow W.heap.size 62 5 (.slice a l.length cap) l.length (l.flatMap Sq.enc)) := by
  have qnil : ∀ (w : World) (a : Option Addr) (n c : Nat), (binOp .eql 44 (.slice a n c) (.slice none 0 0)).run Try.prog w = .ok (.bool a.isNone) w := fun w a n c => Lib.run_eql_slice_nil w 44 62 a n c 0 0 Try.underlying44
  have HV := hid h
  have HP := hid hp
  obtain ⟨a, cap, rfl, hlc, hcm, hnn, _⟩ := h
  clear hp
  cases a with
  | none =>
    have hc0 := hnn rfl
    subst hc0
    have hl0 : l.length = 0 := by omega
    have hln : l = [] := List.length_eq_zero_iff.1 hl0
    subst hln
    go_enter Try.func49, Try.ntmps49
    go_wp2_with fail
    go_ret
    exact ⟨none, 0, rfl, Below.refl _ _, World.ownsRow_nil _ _ _ _⟩
  | some ad =>
    have HC : Hid (Cellz p 5 (W.alloc (.cells #[] 62)) (.slice (some ad) l.length cap) l.length (l.flatMap Sq.enc)) := (HV.out.below (B := W.heap.size) ((Below.refl _ W).alloc (Nat.le_refl _) _) HP.out).cellz Sq.enc_length
    go_enter Try.func49, Try.ntmps49
    go_wp2_with (at_builtin; refine wpList_pushCells elemQ rfl _ _ rfl W.heap.size _ 0 [] rfl (World.ownsRow_made W #[] 0 (Nat.le_refl _) (Nat.zero_le _) (by simp)) rfl HC.out (Sq.one l) ?_ ?_ ?_ ?_)
    · unfold maxLen; omega
    · omega
    · simp
    intro v1 w1 hown hb
    have HB : Hid (Below W.heap.size W w1) := ((Below.refl _ W).alloc (Nat.le_refl _) _).trans hb
    have hown2 : w1.ownsRow W.heap.size 62 5 v1 l.length (l.flatMap Sq.enc) := by simpa using hown
    have hr : RowsOf (fun b => W.heap.size ≤ b ∧ b < w1.heap.size) Sq.enc 5 w1 v1 l := RowsOf.of_owns Sq.enc_length hown2
    have HR := hid hown2
    clear hown2
    obtain ⟨a1, cap1, rfl, _⟩ := hr
    clear hown hb
    go_wp2_with fail
    go_ret
    exact ⟨a1, cap1, rfl, HB.out, HR.out⟩
/-- The spans of a batch lie in a row of their own. -/
def OwnK (base : Nat) (w : World) (k : Sq) : Prop := w.ownsRow base 27 11 (.slice k.pa k.sp.length k.pcap) k.sp.length (k.sp.flatMap Sp.enc)
def kBlk (k : Sq) : List Nat := blocks (.slice k.pa k.sp.length k.pcap)
theorem OwnK.keep {S : List Nat} {base : Nat} {w w' : World} {k : Sq} (h : OwnK base w k) (ho : Only S w w') (hs : Disj (kBlk k) S) : OwnK base w' k := owns_keep h ho hs
theorem OwnK.bd {base : Nat} {w : World} {k : Sq} (h : OwnK base w k) : ∀ b, b ∈ kBlk k → base ≤ b ∧ b < w.heap.size := owns_bd h
theorem OwnK.le {base base' : Nat} {w : World} {k : Sq} (h : OwnK base w k) (hb : base' ≤ base) : OwnK base' w k := owns_le h hb
def OwnQ (W : World) (k : Sq) (v : Value) (w' : World) : Prop := ∃ pa pcap, v = .agg #[.int .i64 k.node, .int .i64 k.seq, .slice pa k.sp.length pcap] ∧ Below W.heap.size W w' ∧ OwnK W.heap.size w' { k with pa := pa, pcap := pcap }
set_option maxRecDepth 100000 in
set_option maxHeartbeats 2000000 in
theorem own_any {p : Nat → Prop} (k : Sq) (W : World) (h : k.At p W) (hp : ∀ b, p b → b < W.heap.size) (hl : k.sp.length ≤ 1000000) :
    Calls Try.prog 43 #[.agg #[.int .i64 k.node, .int .i64 k.seq, .slice k.pa k.sp.length k.pcap]] W (Ret (OwnQ W k)) := by
  have HC := hid (fun W' (hb : Below W.heap.size W W') => sclone_any (p := p) (.slice k.pa k.sp.length k.pcap) k.sp W' (RowsOf.below h hb hp) (fun b hb' => Nat.lt_of_lt_of_le (hp b hb') hb.size) hl)
  clear h hp
  go_enter Try.func43, Try.ntmps43
  go_wp2_with fail
  refine (HC.out _ (((Below.refl _ W).alloc (Nat.le_refl _) _).alloc (by simp) _)).mono ?_
  rintro e w1 ⟨pa, pcap, rfl, hb1, hown⟩
  obtain ⟨z0, z1, z2, zf⟩ := blk3' (((Blk.new W _ _).alloc _).later hb1)
  obtain ⟨y0, y1, y2, yf⟩ := blk3' ((Blk.new' (n := W.heap.size + 1) (W.alloc (.cells #[.int .i64 k.node, .int .i64 k.seq, .slice k.pa k.sp.length k.pcap] 60)) #[.int .i64 0, .int .i64 0, .slice none 0 0] 60 (by simp)).later hb1)
  have HB1 : Hid (Below W.heap.size W w1) := (((Below.refl _ W).alloc (Nat.le_refl _) _).alloc (by simp) _).trans (hb1.mono (by simp; omega))
  have HO : Hid (w1.ownsRow (W.heap.size + 2) 27 11 (.slice pa k.sp.length pcap) k.sp.length (k.sp.flatMap Sp.enc)) := hid (by have := hown.out; simpa using this)
  have hg : W.heap.size + 1 < w1.heap.size := by have := hb1.size; simp at this; omega
  have hg0 : W.heap.size < w1.heap.size := by omega
  have HON := hid (fun w' (ho : Only [W.heap.size, W.heap.size + 1] w1 w') => (show OwnQ W k (.agg #[.int .i64 k.node, .int .i64 k.seq, .slice pa k.sp.length pcap]) w' from ⟨pa, pcap, rfl, HB1.out.trans (ho.below HB1.out.size (fun b hb => by simp at hb; omega)), owns_le (owns_keep HO.out ho (fun b hb => by have := (owns_bd HO.out b hb).1; simp; omega)) (by omega)⟩))
  clear hb1 hown HC
  go_wp2_with fail
  refine bodyPost_ret (by simp [results, Try.results43, go_sem, z0, z1, z2, y0, y1, y2]; try rfl) rfl ?_
  refine ⟨_, rfl, HON.out _ ?_⟩
  iterate 4 (refine Only.setCell ?_ (by simp) _)
  exact Only.refl _ _
/-- A batch stored. -/
def put3 (w : World) (g o : Nat) (x : Sq) : World := ((w.setCell ⟨g, o, none⟩ (.int .i64 x.node)).setCell ⟨g, o + 1, none⟩ (.int .i64 x.seq)).setCell ⟨g, o + 2, none⟩ (.slice x.pa x.sp.length x.pcap)
theorem put3_only (w : World) (g o : Nat) (x : Sq) : Only [g] w (put3 w g o x) := by
  unfold put3
  iterate 3 (refine Only.setCell ?_ (by simp) _)
  exact Only.refl _ _
theorem put3_owns {w : World} {base g cap n : Nat} {l : List Sq} (h : w.ownsRow base 62 5 (.slice (some ⟨g, 0, none⟩) n cap) n (l.flatMap Sq.enc)) (i : Nat) (hi : i < l.length) (x : Sq) (h1 : l[i].tries = x.tries) (h2 : l[i].due = x.due) : (put3 w g (i * 5) x).ownsRow base 62 5 (.slice (some ⟨g, 0, none⟩) n cap) n ((l.set i x).flatMap Sq.enc) := by
  rw [← Sq.flat_set3 x l i hi h1 h2]
  exact (((h.stored (i * 5) _).1.stored (i * 5 + 1) _).1.stored (i * 5 + 2) _).1
/-- Batches copied: a row of their own, the spans of each in a row of their own. -/
structure Cop (base : Nat) (w' : World) (v : Value) (l1 : List Sq) : Prop where
  own : ∀ x ∈ l1, OwnK base w' x
  far : ∀ x ∈ l1, Disj (kBlk x) (blocks v)
def CopQ (W : World) (l : List Sq) (v : Value) (w' : World) : Prop :=
  ∃ l1 : List Sq, l1.map Sq.core = l.map Sq.core ∧ Below W.heap.size W w' ∧ w'.ownsRow W.heap.size 62 5 v l.length (l1.flatMap Sq.enc) ∧ Cop W.heap.size w' v l1
set_option maxRecDepth 100000 in
set_option maxHeartbeats 2000000 in
theorem copied_any {p : Nat → Prop} (v : Value) (l : List Sq) (W : World) (h : RowsOf p Sq.enc 5 W v l) (hp : ∀ b, p b → b < W.heap.size) (hl : l.length ≤ 1000000) (ha : ∀ x ∈ l, x.At (· < W.heap.size) W) (hps : ∀ x ∈ l, x.sp.length ≤ 1000000) :
    Calls Try.prog 34 #[v] W (Ret (CopQ W l)) := by
  have HC := hid (qclone_any v l W h hp hl)
  have HA := hid ha
  have HPS := hid hps
  obtain ⟨a, cap, rfl⟩ : ∃ a cap, v = .slice a l.length cap := by
    obtain ⟨a, cap, e, _⟩ := h
    exact ⟨a, cap, e⟩
  clear h ha hps hp
  go_enter Try.func34, Try.ntmps34
  go_wp2_with fail
  refine HC.out.mono ?_
  rintro e w1 ⟨a1, cap1, rfl, hb1, hown⟩
  have HB1 := hid hb1
  have HO := hid hown.out
  clear hown hb1 HC
  go_wp2_with fail
  go_loopw [10] (fun i wr => ∃ k : Nat, k ≤ l.length ∧ i = .int .i64 k ∧ Hid (∃ l1 : List Sq, l1.length = k ∧ l1.map Sq.core = (l.take k).map Sq.core ∧ Below W.heap.size W wr ∧ wr.ownsRow W.heap.size 62 5 (.slice a1 l.length cap1) l.length ((l1 ++ l.drop k).flatMap Sq.enc) ∧ Cop W.heap.size wr (.slice a1 l.length cap1) l1)) (fun i _ => l.length - (intOf i).toNat)
  case atStart => exact ⟨0, Nat.zero_le _, rfl, hid ⟨[], rfl, rfl, HB1.out, HO.out, ⟨by simp, by simp⟩⟩⟩
  case round =>
    obtain ⟨k, hk, rfl, hh⟩ := hrel
    by_cases hk2 : k < l.length
    · obtain ⟨l1, hl1, hc1, hb, hown, hat⟩ := hh.out
      clear hh
      obtain ⟨x, hx⟩ : ∃ x, l[k] = x := ⟨_, rfl⟩
      have hm : ∀ h : k < (l1 ++ l.drop k).length, (l1 ++ l.drop k)[k] = x := fun h => (get_mid l1 l k hl1 hk2 h).trans hx
      have hxa : x.At (· < W.heap.size) wr := (HA.out x (by rw [← hx]; exact List.getElem_mem hk2)).below hb (fun _ h => h)
      have hxl := HPS.out x (by rw [← hx]; exact List.getElem_mem hk2)
      obtain ⟨g, cap2, e2, hg1, hg2⟩ := owns_at hown (by omega)
      cases e2
      obtain ⟨cc0, cc1, cc2, cc3, cc4⟩ := Sq.cells (y := x) (w := wr) (b := g) (o := k * 5) (fun j u hj => by
        have hj2 : j < 5 := (List.getElem?_eq_some_iff.1 hj).1
        have hlen : (l1 ++ l.drop k).length = l.length := by rw [List.length_append, List.length_drop, hl1]; omega
        rw [hown.cellAt (k * 5 + j) (by omega), flat_get Sq.enc_length _ k (by omega) j hj2]
        rw [hm]
        exact hj)
      have HB := hid hb
      have HOW := hid hown
      have HAT := hid hat
      have HL1 := hid hl1
      have HC1 := hid hc1
      have HX := hid hx
      have HXA := hid hxa
      clear hm
      clear hb hown hat hc1 hx hxa
      clear hl1
      obtain ⟨B1, hB1⟩ : ∃ b, b = wr.alloc (.cells #[.int .i64 x.node, .int .i64 x.seq, .slice x.pa x.sp.length x.pcap, .int .i64 x.tries, .int .i64 x.due] 62) := ⟨_, rfl⟩
      have hbb : Below wr.heap.size wr B1 := by rw [hB1]; go_grown
      have HPC := hid (own_any (p := (· < W.heap.size)) x B1 (HXA.out.below hbb (fun b hb => Nat.lt_of_lt_of_le hb HB.out.size)) (fun b hb => Nat.lt_of_lt_of_le hb (Nat.le_trans HB.out.size hbb.size)) hxl)
      have HBB := hid hbb
      have HE1 := hid hB1
      clear hbb
      rw [hB1] at HPC
      clear hB1
      go_wp2_with fail
      refine HPC.out.mono ?_
      rintro e w3 ⟨v3, rfl, pa, pcap, rfl, hb3, hown3⟩
      rw [← HE1.out] at hb3 hown3
      have HB3 := hid (HBB.out.trans (hb3.mono HBB.out.size))
      have HO3 := hid hown3
      have hown4 := owns_below HOW.out HB3.out
      have hsz := hb3.size
      have HSZ : wr.heap.size < B1.heap.size := by rw [HE1.out]; simp
      have hg3 : g < w3.heap.size := by omega
      have hlen : (l1 ++ l.drop k).length = l.length := by rw [List.length_append, List.length_drop, HL1.out]; omega
      have hcell : ∀ j u, j < 5 → (Sq.enc x)[j]? = some u → w3.cell? ⟨g, k * 5 + j, none⟩ = some u := fun j u hj2 hj => by
        rw [hown4.cellAt (k * 5 + j) (by omega), flat_get Sq.enc_length _ k (by omega) j hj2, get_mid l1 l k HL1.out hk2 (by omega), HX.out]
        exact hj
      have dd0 := hcell 0 _ (by decide) rfl
      have dd1 := hcell 1 _ (by decide) rfl
      have dd2 := hcell 2 _ (by decide) rfl
      rw [Nat.add_zero] at dd0
      have hfz : ∀ j, w3.frozen? ⟨g, j, none⟩ = false := fun j => hown4.frozenAt _
      have HR : Hid (∃ l2 : List Sq, l2.length = k + 1 ∧ l2.map Sq.core = (l.take (k + 1)).map Sq.core ∧ Below W.heap.size W (put3 w3 g (k * 5) { x with pa := pa, pcap := pcap }) ∧ (put3 w3 g (k * 5) { x with pa := pa, pcap := pcap }).ownsRow W.heap.size 62 5 (.slice (some ⟨g, 0, none⟩) l.length cap1) l.length ((l2 ++ l.drop (k + 1)).flatMap Sq.enc) ∧ Cop W.heap.size (put3 w3 g (k * 5) { x with pa := pa, pcap := pcap }) (.slice (some ⟨g, 0, none⟩) l.length cap1) l2) := by
        have hon3 := put3_only w3 g (k * 5) { x with pa := pa, pcap := pcap }
        have hon : Only [g] wr (put3 w3 g (k * 5) { x with pa := pa, pcap := pcap }) := (show Only [g] wr w3 from Only.of_below HB3.out).trans hon3
        have hbl : blocks (.slice (some ⟨g, 0, none⟩) l.length cap1) = [g] := rfl
        have hgw : ∀ b, b ∈ kBlk { x with pa := pa, pcap := pcap } → B1.heap.size ≤ b ∧ b < w3.heap.size := owns_bd HO3.out
        refine ⟨l1 ++ [{ x with pa := pa, pcap := pcap }], by simp [HL1.out], ?_, ?_, ?_, ?_, ?_⟩
        · exact map_take_snoc Sq.core l1 l k hk2 _ HC1.out (by rw [HX.out]; rfl)
        · exact HB.out.trans (hon.below HB.out.size (fun b hb => by simp at hb; omega))
        · have hgm := get_mid l1 l k HL1.out hk2 (by omega)
          have hst := put3_owns hown4 k (by omega) { x with pa := pa, pcap := pcap } (by rw [hgm, HX.out]) (by rw [hgm, HX.out])
          rw [set_mid l1 l k HL1.out hk2] at hst
          exact hst
        · intro y hy
          rcases List.mem_append.1 hy with hy | hy
          · exact (HAT.out.own y hy).keep hon (by rw [← hbl]; exact HAT.out.far y hy)
          · obtain rfl : y = { x with pa := pa, pcap := pcap } := by simpa using hy
            refine (OwnK.le (show OwnK B1.heap.size w3 { x with pa := pa, pcap := pcap } from HO3.out) (by have := HB.out.size; omega)).keep hon3 (fun b hb => ?_)
            have := hgw b hb
            simp; omega
        · intro y hy
          rcases List.mem_append.1 hy with hy | hy
          · exact HAT.out.far y hy
          · obtain rfl : y = { x with pa := pa, pcap := pcap } := by simpa using hy
            rw [hbl]
            intro b hb
            have := hgw b hb
            simp; omega
      clear hb3 hown3 hown4 HPC cc0 cc1 cc2 cc3 cc4 hcell
      unfold put3 at HR
      go_wp2_with fail
      go_roundw
      case rel => exact ⟨k + 1, by omega, by go_num, HR⟩
      case measure => simp [intOf]; omega
    · obtain rfl : k = l.length := by omega
      obtain ⟨l1, hl1, hc1, hb, hown, hat⟩ := hh.out
      rw [List.take_length] at hc1
      rw [List.drop_length, List.append_nil] at hown
      have HR := hid (show CopQ W l (.slice a1 l.length cap1) wr from ⟨l1, hc1, hb, hown, hat⟩)
      clear hl1 hc1 hb hown hat hh
      go_wp2_with fail
      go_ret
      exact ⟨_, rfl, HR.out⟩
end C26
end Go.Proofs.Ytdamnbldimompaa
