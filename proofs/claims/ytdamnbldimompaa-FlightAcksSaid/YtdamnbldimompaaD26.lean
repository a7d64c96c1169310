/- Walks of layer 26 (flight): batches of a number taken out; how many spans; no condition. -/
import Derived.Test.YtdamnbldimompaaC26
import Derived.Test.YtdamnbldimompaaCl
namespace Go.Peri
namespace Sq
open Go.RowKit
/-- Those that are not of a number. -/
def rest (l : List Sq) (q : Int) : List Sq := l.filter (fun k => !(k.seq == q))
def ixQ (l : List Sq) (q : Int) : Nat := l.findIdx (fun k => k.seq == q)
def atQ (l : List Sq) (q : Int) : Int := if ixQ l q < l.length then ixQ l q else -1
theorem ixQ_hit {l : List Sq} {q : Int} {k : Nat} (hk : k < l.length) (h1 : (l[k].seq == q) = true) (h2 : ∀ j (_ : j < k) (hj : j < l.length), (l[j].seq == q) = false) : ixQ l q = k := by
  unfold ixQ
  rw [List.findIdx_eq hk]
  exact ⟨h1, fun j hj => by simpa using h2 j hj (by omega)⟩
theorem ixQ_none {l : List Sq} {q : Int} (h2 : ∀ j (_ : j < l.length) (hj : j < l.length), (l[j].seq == q) = false) : ¬ ixQ l q < l.length := by
  intro h
  have := List.findIdx_getElem (w := h)
  have h3 := h2 _ h h
  unfold ixQ at h3
  rw [h3] at this
  exact Bool.noConfusion this
theorem rest_snoc (l : List Sq) (x : Sq) (q : Int) : rest (l ++ [x]) q = if (x.seq == q) = true then rest l q else rest l q ++ [x] := by
  unfold rest
  rw [List.filter_append]
  cases hq : (x.seq == q) <;> simp [List.filter_cons, hq]
theorem rest_first {l : List Sq} {q : Int} (h : ixQ l q < l.length) : rest (l.take (ixQ l q + 1)) q = l.take (ixQ l q) := by
  have hit : (l[ixQ l q].seq == q) = true := List.findIdx_getElem (w := h)
  rw [List.take_succ_eq_append_getElem h, rest_snoc, if_pos hit]
  unfold rest
  rw [List.filter_eq_self]
  intro x hx
  obtain ⟨i, hi, rfl⟩ := List.getElem_of_mem hx
  rw [List.length_take] at hi
  rw [List.getElem_take]
  have := List.not_of_lt_findIdx (p := fun k : Sq => k.seq == q) (xs := l) (i := i) (by unfold ixQ at hi; omega)
  simpa using this
theorem rest_none {l : List Sq} {q : Int} (h : ¬ ixQ l q < l.length) : rest l q = l := by
  unfold rest
  rw [List.filter_eq_self]
  intro x hx
  have h2 : l.findIdx (fun k => k.seq == q) = l.length := by
    have := List.findIdx_le_length (p := fun k : Sq => k.seq == q) (xs := l)
    unfold ixQ at h
    omega
  rw [List.findIdx_eq_length] at h2
  simpa using h2 x hx
/-- How many spans. -/
def total (l : List Sq) : Nat := (l.map (fun k => k.sp.length)).sum
theorem total_snoc (l : List Sq) (x : Sq) : total (l ++ [x]) = total l + x.sp.length := by simp [total]
theorem total_le {l : List Sq} (h : ∀ x ∈ l, x.sp.length ≤ 1000000) : total l ≤ l.length * 1000000 := by
  induction l with
  | nil => simp [total]
  | cons x l ih =>
    have h1 := h x (by simp)
    have h2 := ih (fun y hy => h y (by simp [hy]))
    simp only [total, List.map_cons, List.sum_cons, List.length_cons] at *
    omega
end Sq
end Go.Peri
namespace Go.Proofs.Ytdamnbldimompaa
open Go.RowKit Go.Peri
open Gen (flat_set set_mid get_mid map_take_snoc owns_at owns_num owns_le owns_below owns_form)
namespace C26
open Sq (rest ixQ atQ total)
set_option maxRecDepth 100000 in
theorem lit_any (y : Sq) (q : Int) (B : Nat) (w : World) (hB : B < w.heap.size) (h0 : w.cell? ⟨B, 0, none⟩ = some (.int .i64 q)) :
    Calls Try.prog 35 #[.agg #[.int .i64 y.node, .int .i64 y.seq, .slice y.pa y.sp.length y.pcap, .int .i64 y.tries, .int .i64 y.due], .pointer (some ⟨B, 0, none⟩)] w fun e w' => e = .returned (.bool (y.seq == q)) ∧ Below w.heap.size w w' := by
  have hne : B ≠ w.heap.size := by omega
  go_enter Try.func35, Try.ntmps35
  go_wp2_with fail
  go_ret
  exact ⟨rfl, by go_grown⟩
set_option maxRecDepth 100000 in
theorem index_any {p : Nat → Prop} (v : Value) (l : List Sq) (q : Int) (B : Nat) (W : World) (h : RowsOf p Sq.enc 5 W v l) (hp : ∀ b, p b → b < W.heap.size) (hl : l.length ≤ 9223372036854775807) (hB : B < W.heap.size) (h0 : W.cell? ⟨B, 0, none⟩ = some (.int .i64 q)) :
    Calls Try.prog 48 #[v, .func (.func 35) #[] #[.pointer (some ⟨B, 0, none⟩)]] W fun e w' => e = .returned (.int .i64 (atQ l q)) ∧ Below W.heap.size W w' := by
  obtain ⟨a, cap, rfl, hlc, hcm, _, hcell⟩ := h
  have HC := hid hcell
  have HP := hid hp
  have HC0 := hid h0
  clear hcell hp h0
  go_enter Try.func48, Try.ntmps48
  go_wp2_with fail
  go_loopw [5, 8] (fun _ i wr => ∃ k : Nat, k ≤ l.length ∧ i = .int .i64 k ∧ Below W.heap.size W wr ∧ ∀ j (_ : j < k) (hj : j < l.length), (l[j].seq == q) = false) (fun _ i _ => l.length - (intOf i).toNat)
  case atStart => exact ⟨0, Nat.zero_le _, rfl, Below.refl _ _, fun j hj => absurd hj (Nat.not_lt_zero _)⟩
  case round =>
    obtain ⟨k, hk, rfl, hb, hno⟩ := hrel
    have HB := hid hb
    have HN := hid hno
    clear hb hno
    by_cases hlt : k < l.length
    · obtain ⟨b, off, rfl, hpb, hc⟩ := HC.out.resolve_left (by intro e; rw [e] at hlt; simp at hlt)
      have hbl := HP.out b hpb
      obtain ⟨c0, c1, c2, c3, c4⟩ := Sq.cells (fun j u hu => (HB.out.cell (p := ⟨b, off + k * 5 + j, none⟩) hbl).trans (hc k hlt j u hu))
      have HLit := hid (lit_any l[k] q B wr (Nat.lt_of_lt_of_le hB HB.out.size) ((HB.out.cell (p := ⟨B, 0, none⟩) hB).trans HC0.out))
      have HNext : Hid (∀ j (_ : j < k + 1) (hj : j < l.length), (l[k].seq == q) = false → (l[j].seq == q) = false) := by
        intro j hj hjl hne
        by_cases e : j = k
        · subst e; exact hne
        · exact HN.out j (by omega) hjl
      have HHit : Hid ((l[k].seq == q) = true → atQ l q = k) := fun hh => by
        have := Sq.ixQ_hit hlt hh HN.out
        unfold Sq.atQ
        rw [this, if_pos hlt]
      clear hc
      generalize l[k] = y at c0 c1 c2 c3 c4 HLit HNext HHit
      generalize (y.seq == q) = bq at HLit HNext HHit
      cases bq
      · go_wp2_with (go_at_call 35; refine HLit.out.mono ?_; rintro e w1 ⟨rfl, hb1⟩)
        go_roundw
        case rel => exact ⟨k + 1, by omega, by go_num, HB.out.trans (hb1.mono HB.out.size), fun j hj hjl => HNext.out j hj hjl (by first | rfl | trivial)⟩
        case measure => simp [intOf]; omega
      · go_wp2_with (go_at_call 35; refine HLit.out.mono ?_; rintro e w1 ⟨rfl, hb1⟩)
        go_ret
        exact ⟨by rw [HHit.out (by first | rfl | trivial)]; rfl, HB.out.trans (hb1.mono HB.out.size)⟩
    · obtain rfl : k = l.length := by omega
      go_wp2_with fail
      go_ret
      exact ⟨by unfold Sq.atQ; rw [if_neg (Sq.ixQ_none (fun j hj hjl => HN.out j hj hjl))]; rfl, HB.out⟩
theorem row5 {w : World} {g : Nat} {cs : Array Value} {t : TypeId} (h : Blk w g cs t) {l : List Sq} {lo hi : Nat} (hx : ∀ q, lo ≤ q → q < hi → cs[q]? = (l.flatMap Sq.enc)[q]?) (k : Nat) (hk : k < l.length) (h1 : lo ≤ k * 5) (h2 : k * 5 + 4 < hi) :
    ∀ j u, (l[k]).enc[j]? = some u → w.cell? ⟨g, k * 5 + j, none⟩ = some u := by
  intro j u hu
  have hj : j < 5 := (List.getElem?_eq_some_iff.1 hu).1
  rw [h.cell, hx _ (by omega) (by omega), flat_get Sq.enc_length l k hk j hj]
  exact hu
/-- A row half worked on: its first places hold A, those from k on what they held. -/
structure Half (g cap m k : Nat) (A l : List Sq) (w : World) : Prop where
  ex : ∃ cs, Blk w g cs 62 ∧ cs.size = cap * 5 ∧ (∀ q, q < m * 5 → cs[q]? = (A.flatMap Sq.enc)[q]?) ∧ (∀ q, k * 5 ≤ q → q < l.length * 5 → cs[q]? = (l.flatMap Sq.enc)[q]?)
  len : A.length = m
theorem Half.set {g cap m k : Nat} {A l : List Sq} {w w' : World} {x : Sq} {cs : Array Value} (hb : Blk w g cs 62) (hs : cs.size = cap * 5) (h1 : ∀ q, q < m * 5 → cs[q]? = (A.flatMap Sq.enc)[q]?) (h2 : ∀ q, k * 5 ≤ q → q < l.length * 5 → cs[q]? = (l.flatMap Sq.enc)[q]?) (hA : A.length = m) (hmk : m < k) (hkc : k ≤ cap)
    (hw : w' = (((((w).setCell ⟨g, m * 5, none⟩ (.int .i64 x.node)).setCell ⟨g, m * 5 + 1, none⟩ (.int .i64 x.seq)).setCell ⟨g, m * 5 + 2, none⟩ (.slice x.pa x.sp.length x.pcap)).setCell ⟨g, m * 5 + 3, none⟩ (.int .i64 x.tries)).setCell ⟨g, m * 5 + 4, none⟩ (.int .i64 x.due)) : Half g cap (m + 1) (k + 1) (A ++ [x]) l w' := by
  subst hw
  refine ⟨⟨_, ((((hb.set _ _).set _ _).set _ _).set _ _).set _ _, by simpa using hs, fun q hq => ?_, fun q hq hq2 => ?_⟩, by simp [hA]⟩
  · simp only [Array.getElem?_setIfInBounds, Array.size_setIfInBounds]
    rw [List.flatMap_append, List.getElem?_append, flat_length Sq.enc_length, hA]
    by_cases e4 : m * 5 + 4 = q
    · subst e4
      rw [if_pos rfl, if_pos (by omega), if_neg (by omega), show m * 5 + 4 - m * 5 = 4 by omega]; rfl
    rw [if_neg e4]
    by_cases e3 : m * 5 + 3 = q
    · subst e3
      rw [if_pos rfl, if_pos (by omega), if_neg (by omega), show m * 5 + 3 - m * 5 = 3 by omega]; rfl
    rw [if_neg e3]
    by_cases e2 : m * 5 + 2 = q
    · subst e2
      rw [if_pos rfl, if_pos (by omega), if_neg (by omega), show m * 5 + 2 - m * 5 = 2 by omega]; rfl
    rw [if_neg e2]
    by_cases e1 : m * 5 + 1 = q
    · subst e1
      rw [if_pos rfl, if_pos (by omega), if_neg (by omega), show m * 5 + 1 - m * 5 = 1 by omega]; rfl
    rw [if_neg e1]
    by_cases e0 : m * 5 = q
    · subst e0
      rw [if_pos rfl, if_pos (by omega), if_neg (by omega), Nat.sub_self]; rfl
    rw [if_neg e0, if_pos (by omega)]
    exact h1 q (by omega)
  · simp only [Array.getElem?_setIfInBounds]
    rw [if_neg (by omega), if_neg (by omega), if_neg (by omega), if_neg (by omega), if_neg (by omega)]
    exact h2 q (by omega) hq2
def DelQ (base : Nat) (a : Option Addr) (cap : Nat) (A : List Sq) (w : World) (e : Ending) (w' : World) : Prop := e = .returned (.slice a A.length cap) ∧ Only (blocks (.slice a A.length cap)) w w' ∧ Hid (w'.ownsRow base 62 5 (.slice a A.length cap) A.length (A.flatMap Sq.enc))
set_option maxRecDepth 100000 in
set_option maxHeartbeats 2000000 in
theorem delete_hit (base g cap : Nat) (l : List Sq) (q : Int) (B : Nat) (W : World) (h : W.ownsRow base 62 5 (.slice (some ⟨g, 0, none⟩) l.length cap) l.length (l.flatMap Sq.enc)) (hl : l.length ≤ 1000000) (hB : B < W.heap.size) (hBg : B ≠ g) (hc : W.cell? ⟨B, 0, none⟩ = some (.int .i64 q)) (hx : ixQ l q < l.length) :
    Calls Try.prog 33 #[.slice (some ⟨g, 0, none⟩) l.length cap, .func (.func 35) #[] #[.pointer (some ⟨B, 0, none⟩)]] W (DelQ base (some ⟨g, 0, none⟩) cap (rest l q) W) := by
  have HIX := hid (index_any _ l q B W (RowsOf.of_owns Sq.enc_length h) (fun b hb => hb.2) (by omega) hB hc)
  have hat : Hid (atQ l q = (ixQ l q : Nat)) := hid (if_pos hx)
  rw [hat.out] at HIX
  have hfirst := hid (Sq.rest_first hx)
  obtain ⟨cur, hbg, hblk, hnc, hcm, hcs, htake⟩ : ∃ cur, base ≤ g ∧ Blk W g cur 62 ∧ l.length ≤ cap ∧ cap ≤ maxLen ∧ cur.size = cap * 5 ∧ cur.toList.take (l.length * 5) = l.flatMap Sq.enc := by
    rcases h.2 with ⟨h3, _⟩ | ⟨g', cp, cur, e, q1, q2, q3, q4, q5, q6⟩
    · cases h3
    · cases e; exact ⟨cur, q1, q2, q3, q4, q5, q6⟩
  have hcur : ∀ q, q < l.length * 5 → cur[q]? = (l.flatMap Sq.enc)[q]? := fun q hq => by
    rw [← htake, List.getElem?_take, if_pos hq, Array.getElem?_toList]
  obtain ⟨i0, hi0⟩ : ∃ i, i = ixQ l q := ⟨_, rfl⟩
  rw [← hi0] at hx HIX hfirst
  have H0 : Hid (Half g cap i0 (i0 + 1) (rest (l.take (i0 + 1)) q) l W) := by
    refine ⟨⟨cur, hblk, hcs, fun q hq => ?_, fun q _ hq2 => hcur q hq2⟩, by rw [hfirst.out, List.length_take]; omega⟩
    rw [hcur q (by omega), hfirst.out]
    conv => lhs; rw [← List.take_append_drop i0 l, List.flatMap_append]
    rw [List.getElem?_append_left (by rw [flat_length Sq.enc_length, List.length_take]; omega)]
  have hgl := hblk.lt
  have HCB := hid hc
  have hz : ∃ z : Value, (∀ w, (zeroValue 62).run Try.prog w = .ok z w) ∧ z.cells.size = 5 ∧ ∀ v ∈ z.cells.toList, v.oneCell' = true := by
    refine ⟨.agg #[.int .i64 0, .int .i64 0, .slice none 0 0, .int .i64 0, .int .i64 0], Try.zeroValue62, rfl, ?_⟩
    intro v hv
    simp only [Value.cells, List.mem_cons, List.not_mem_nil, or_false] at hv
    rcases hv with rfl | rfl | rfl | rfl | rfl <;> rfl
  have HZ := hid hz
  clear h hat hblk hcs htake hcur hi0 hc hz
  have e1 : (((i0 : Nat) : Int) == -1) = false := by rw [beq_eq_false_iff_ne]; omega
  go_enter Try.func33, Try.ntmps33
  go_wp2_with fail
  refine HIX.out.mono ?_
  rintro e w1 ⟨rfl, hb1⟩
  have HO1 : Hid (Only [g] W w1) := Only.of_below hb1
  have HF1 : Hid (Half g cap i0 (i0 + 1) (rest (l.take (i0 + 1)) q) l w1) := by
    obtain ⟨⟨cs, q1, q2⟩, q3⟩ := H0.out
    exact ⟨⟨cs, q1.later hb1, q2⟩, q3⟩
  clear hb1 H0 HIX
  go_wp2_with fail
  go_loopw [5, 6] (fun a b wr => ∃ m k : Nat, k ≤ l.length ∧ m < k ∧ a = .int .i64 m ∧ b = .int .i64 k ∧ Only [g] W wr ∧ Half g cap m k (rest (l.take k) q) l wr) (fun _ b _ => l.length - (intOf b).toNat)
  case atStart => exact ⟨i0, i0 + 1, by omega, by omega, rfl, by go_num, HO1.out, HF1.out⟩
  case round =>
    obtain ⟨m, k, hk, hmk, rfl, rfl, ho, hf⟩ := hrel
    have HO := hid ho
    obtain ⟨⟨cs, hb, hs, h1, h2⟩, hA⟩ := hf
    have hws := ho.size
    by_cases hlt : k < l.length
    · obtain ⟨c0, c1, c2, c3, c4⟩ := Sq.cells (row5 hb (lo := k * 5) (hi := l.length * 5) (l := l) (fun q q1 q2 => h2 q q1 q2) k hlt (by omega) (by omega))
      obtain ⟨bq, hq⟩ : ∃ bq, (l[k].seq == q) = bq := ⟨_, rfl⟩
      have HLit : Hid (∀ w', Below wr.heap.size wr w' → Calls Try.prog 35 #[.agg #[.int .i64 l[k].node, .int .i64 l[k].seq, .slice l[k].pa l[k].sp.length l[k].pcap, .int .i64 l[k].tries, .int .i64 l[k].due], .pointer (some ⟨B, 0, none⟩)] w' fun e w'' => e = .returned (.bool bq) ∧ Below w'.heap.size w' w'') := fun w' hw' => by
        have hBr : B < wr.heap.size := by omega
        rw [← hq]
        refine lit_any l[k] q B w' (Nat.lt_of_lt_of_le hBr hw'.size) ?_
        rw [hw'.cell (p := ⟨B, 0, none⟩) hBr, HO.out.cell (p := ⟨B, 0, none⟩) hB (by simpa using hBg)]
        exact HCB.out
      have hsn : Hid (rest (l.take (k + 1)) q = if bq = true then rest (l.take k) q else rest (l.take k) q ++ [l[k]]) := hid (by
        rw [List.take_succ_eq_append_getElem hlt, Sq.rest_snoc, ← hq])
      have hcapk : k < cap := by omega
      generalize l[k] = y at c0 c1 c2 c3 c4 HLit hsn
      generalize rest (l.take k) q = A at h1 hA hsn
      clear hq
      have hgr : g < wr.heap.size := by omega
      have HHB := hid hb
      have HH1 := hid h1
      have HH2 := hid h2
      have HHS := hid hs
      clear hb h1 h2 hs ho
      cases bq
      · go_wp2_with fail
        refine (HLit.out _ (by go_grown)).mono ?_
        rintro e w2 ⟨rfl, hb2⟩
        have hbw : Below wr.heap.size wr w2 := Below.trans (by go_grown) (hb2.mono (by simp))
        have hk2 : Blk w2 wr.heap.size #[.int .i64 y.node, .int .i64 y.seq, .slice y.pa y.sp.length y.pcap, .int .i64 y.tries, .int .i64 y.due] 62 := (Blk.new wr _ _).later hb2
        obtain ⟨z0, z1, z2, z3, z4, -⟩ := blk5' hk2
        have hbg2 := HHB.out.later hbw
        obtain ⟨t0, ht0⟩ : ∃ v, w2.cell? ⟨g, m * 5, none⟩ = some v := ⟨cs[m * 5]'(by rw [HHS.out]; omega), by rw [hbg2.cell, Array.getElem?_eq_getElem]⟩
        have f0 := hbg2.free (m * 5)
        obtain ⟨t1, ht1⟩ : ∃ v, w2.cell? ⟨g, m * 5 + 1, none⟩ = some v := ⟨cs[m * 5 + 1]'(by rw [HHS.out]; omega), by rw [hbg2.cell, Array.getElem?_eq_getElem]⟩
        have f1 := hbg2.free (m * 5 + 1)
        obtain ⟨t2, ht2⟩ : ∃ v, w2.cell? ⟨g, m * 5 + 2, none⟩ = some v := ⟨cs[m * 5 + 2]'(by rw [HHS.out]; omega), by rw [hbg2.cell, Array.getElem?_eq_getElem]⟩
        have f2 := hbg2.free (m * 5 + 2)
        obtain ⟨t3, ht3⟩ : ∃ v, w2.cell? ⟨g, m * 5 + 3, none⟩ = some v := ⟨cs[m * 5 + 3]'(by rw [HHS.out]; omega), by rw [hbg2.cell, Array.getElem?_eq_getElem]⟩
        have f3 := hbg2.free (m * 5 + 3)
        obtain ⟨t4, ht4⟩ : ∃ v, w2.cell? ⟨g, m * 5 + 4, none⟩ = some v := ⟨cs[m * 5 + 4]'(by rw [HHS.out]; omega), by rw [hbg2.cell, Array.getElem?_eq_getElem]⟩
        have f4 := hbg2.free (m * 5 + 4)
        have hng : ¬ g = wr.heap.size := by omega
        have hng2 : ¬ wr.heap.size = g := by omega
        have HF2 : Hid (Half g cap (m + 1) (k + 1) (rest (l.take (k + 1)) q) l ((((((w2).setCell ⟨g, m * 5, none⟩ (.int .i64 y.node)).setCell ⟨g, m * 5 + 1, none⟩ (.int .i64 y.seq)).setCell ⟨g, m * 5 + 2, none⟩ (.slice y.pa y.sp.length y.pcap)).setCell ⟨g, m * 5 + 3, none⟩ (.int .i64 y.tries)).setCell ⟨g, m * 5 + 4, none⟩ (.int .i64 y.due))) := hid (by
          rw [hsn.out, if_neg (by simp)]
          exact Half.set hbg2 HHS.out HH1.out HH2.out hA hmk (by omega) rfl)
        have HO2 : Hid (Only [g] W ((((((w2).setCell ⟨g, m * 5, none⟩ (.int .i64 y.node)).setCell ⟨g, m * 5 + 1, none⟩ (.int .i64 y.seq)).setCell ⟨g, m * 5 + 2, none⟩ (.slice y.pa y.sp.length y.pcap)).setCell ⟨g, m * 5 + 3, none⟩ (.int .i64 y.tries)).setCell ⟨g, m * 5 + 4, none⟩ (.int .i64 y.due))) := hid (((((((HO.out.trans (Only.of_below hbw)).setCell (by simp) _).setCell (by simp) _).setCell (by simp) _).setCell (by simp) _).setCell (by simp) _))
        clear hb2 hbw hk2 hbg2
        go_wp2_with fail
        go_roundw
        case rel => exact ⟨m + 1, k + 1, by omega, by omega, by go_num, by go_num, HO2.out, HF2.out⟩
        case measure => simp [intOf]; omega
      · go_wp2_with fail
        refine (HLit.out _ (by go_grown)).mono ?_
        rintro e w2 ⟨rfl, hb2⟩
        have hbw : Below wr.heap.size wr w2 := Below.trans (by go_grown) (hb2.mono (by simp))
        have HF2 : Hid (Half g cap m (k + 1) (rest (l.take (k + 1)) q) l w2) := hid (by
          rw [hsn.out, if_pos (by simp)]
          exact ⟨⟨cs, HHB.out.later hbw, HHS.out, HH1.out, fun q q1 q2 => HH2.out q (by omega) q2⟩, hA⟩)
        have HO2 : Hid (Only [g] W w2) := hid (HO.out.trans (Only.of_below hbw))
        clear hb2 hbw
        go_wp2_with fail
        go_roundw
        case rel => exact ⟨m, k + 1, by omega, by omega, rfl, by go_num, HO2.out, HF2.out⟩
        case measure => simp [intOf]; omega
    · obtain rfl : k = l.length := by omega
      rw [List.take_length] at h1 hA
      obtain ⟨A, hA0⟩ : ∃ A, A = rest l q := ⟨_, rfl⟩
      rw [← hA0] at h1 hA
      have HA0 := hid hA0
      clear hA0
      obtain ⟨z, hzv, hzsz, hzone⟩ := HZ.out
      obtain ⟨zs, hzl, hcl⟩ := run_clear_cells (P := Try.prog) (t := 44) (e := 62) (size := 5) wr Try.underlying44 z hzv hzsz hzone g (m * 5) (l.length - m) (cap - m) (by omega) (fun q hq => by rw [hb.cell, Array.getElem?_eq_getElem (by rw [hs]; omega)]; rfl) (fun q _ => hb.free _)
      obtain ⟨cs2, hb2, hc2⟩ := Blk.setCells (w := wr) (cs := cs) (t := 62) zs (m * 5) hb
      have fin : DelQ base (some ⟨g, 0, none⟩) cap A W (.returned (.slice (some ⟨g, 0, none⟩) m cap)) (wr.setCells g (m * 5) zs) := by
        refine ⟨by rw [hA], Only.setCells (by simp [blocks, Value.ownBlock]) _ _ ho, ?_⟩
        show World.ownsRow _ _ _ _ _ _ _
        refine owns_of_blk hb2 hbg (by rw [hc2, hs]) (by omega) hcm (flat_length Sq.enc_length A) fun q hq => ?_
        rw [flat_length Sq.enc_length, hA] at hq
        rw [← hb2.cell, World.cell?_setCells_out g zs (m * 5) wr ⟨g, q, none⟩ (fun _ _ => .inl hq), hb.cell, h1 q hq]
      have HFin := hid fin
      have k1 : (0 : Int) ≤ (m : Int) := by omega
      have k2 : (m : Int) ≤ (l.length : Int) := by omega
      have k3 : (m : Int) ≤ (cap : Int) := by omega
      have k4 : (l.length : Int) ≤ (cap : Int) := by omega
      have k5 : ¬ cap = m := by omega
      clear h1 h2 hb hb2 hc2 hzl hzv hzsz hzone fin ho HZ
      go_wp2_with fail
      go_ret
      rw [← HA0.out]
      exact HFin.out
set_option maxRecDepth 100000 in
theorem delete_any (base : Nat) (a : Option Addr) (cap : Nat) (l : List Sq) (q : Int) (B : Nat) (W : World) (h : W.ownsRow base 62 5 (.slice a l.length cap) l.length (l.flatMap Sq.enc)) (hl : l.length ≤ 1000000) (hB : B < W.heap.size) (hBg : B < base) (hc : W.cell? ⟨B, 0, none⟩ = some (.int .i64 q)) :
    Calls Try.prog 33 #[.slice a l.length cap, .func (.func 35) #[] #[.pointer (some ⟨B, 0, none⟩)]] W (DelQ base a cap (rest l q) W) := by
  by_cases hx : ixQ l q < l.length
  · obtain ⟨g, cap2, e2, hg1, hg2⟩ := owns_at h (by omega)
    cases e2
    exact delete_hit base g cap l q B W h hl hB (by omega) hc hx
  · have HIX := hid (index_any _ l q B W (RowsOf.of_owns Sq.enc_length h) (fun b hb => hb.2) (by omega) hB hc)
    have hat : atQ l q = -1 := if_neg hx
    rw [hat] at HIX
    have HR : Hid (rest l q = l) := hid (Sq.rest_none hx)
    have HO := hid h
    clear h hx hat hc
    go_enter Try.func33, Try.ntmps33
    go_wp2_with fail
    refine HIX.out.mono ?_
    rintro e w1 ⟨rfl, hb1⟩
    have HB1 := hid hb1
    clear hb1 HIX
    go_wp2_with fail
    go_ret
    rw [HR.out]
    exact ⟨rfl, Only.of_below HB1.out, owns_below HO.out HB1.out⟩
set_option maxRecDepth 100000 in
theorem spans_any {p : Nat → Prop} (v : Value) (l : List Sq) (W : World) (h : RowsOf p Sq.enc 5 W v l) (hp : ∀ b, p b → b < W.heap.size) (hl : l.length ≤ 1000000) (hps : ∀ x ∈ l, x.sp.length ≤ 1000000) :
    Calls Try.prog 21 #[v] W fun e w' => e = .returned (.int .i64 (total l : Nat)) ∧ Below W.heap.size W w' := by
  obtain ⟨a, cap, rfl, hlc, hcm, _, hcell⟩ := h
  have HC := hid hcell
  have HP := hid hp
  have HPS := hid hps
  clear hcell hp hps
  go_enter Try.func21, Try.ntmps21
  go_wp2_with fail
  go_loopw [3, 8] (fun s i wr => ∃ k T : Nat, k ≤ l.length ∧ T ≤ k * 1000000 ∧ s = .int .i64 T ∧ i = .int .i64 k ∧ Hid (Below W.heap.size W wr) ∧ Hid (T = total (l.take k))) (fun _ i _ => l.length - (intOf i).toNat)
  case atStart => exact ⟨0, 0, Nat.zero_le _, Nat.zero_le _, rfl, rfl, hid (Below.refl _ _), hid rfl⟩
  case round =>
    obtain ⟨k, T, hk, hT, rfl, rfl, HB, HT⟩ := hrel
    by_cases hlt : k < l.length
    · obtain ⟨b, off, rfl, hpb, hc⟩ := HC.out.resolve_left (by intro e; rw [e] at hlt; simp at hlt)
      have hbl := HP.out b hpb
      obtain ⟨c0, c1, c2, c3, c4⟩ := Sq.cells (fun j u hu => (HB.out.cell (p := ⟨b, off + k * 5 + j, none⟩) hbl).trans (hc k hlt j u hu))
      have HN : Hid (T + l[k].sp.length = total (l.take (k + 1))) := hid (by rw [List.take_succ_eq_append_getElem hlt, Sq.total_snoc, HT.out])
      have hxl := HPS.out l[k] (List.getElem_mem hlt)
      clear hc
      generalize l[k] = y at c0 c1 c2 c3 c4 HN hxl
      obtain ⟨n, hn⟩ : ∃ n, y.sp.length = n := ⟨_, rfl⟩
      rw [hn] at c2 HN hxl
      clear hn
      have hw : IntKind.i64.wrap ((T : Int) + (n : Int)) = (T : Int) + (n : Int) := by rw [IntKind.wrap_i64]; omega
      have HB2 : Hid (Below W.heap.size W (wr.alloc (.cells #[.int .i64 y.node, .int .i64 y.seq, .slice y.pa n y.pcap, .int .i64 y.tries, .int .i64 y.due] 62))) := hid (HB.out.alloc HB.out.size _)
      go_wp2_with fail
      go_roundw
      case rel => exact ⟨k + 1, T + n, by omega, by omega, by go_num, by go_num, HB2, HN⟩
      case measure => simp [intOf]; omega
    · obtain rfl : k = l.length := by omega
      rw [List.take_length] at HT
      go_wp2_with fail
      go_ret
      exact ⟨by rw [HT.out]; rfl, HB.out⟩
end C26
end Go.Proofs.Ytdamnbldimompaa
