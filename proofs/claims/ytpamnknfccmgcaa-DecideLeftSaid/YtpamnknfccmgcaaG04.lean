/- Walks of layer 4 (head): headers without some names (slices.DeleteFunc); no condition. -/
import Derived.Test.YtpamnknfccmgcaaF04
namespace Go.Proofs.Ytpamnknfccmgcaa
open Go.RowKit Go.Peri
namespace C04
theorem row2 {w : World} {g : Nat} {cs : Array Value} {t : TypeId} (h : Blk w g cs t) {l : List Hd} {lo hi : Nat} (hx : ∀ q, lo ≤ q → q < hi → cs[q]? = (l.flatMap Hd.enc)[q]?) (k : Nat) (hk : k < l.length) (h1 : lo ≤ k * 2) (h2 : k * 2 + 1 < hi) :
    w.cell? ⟨g, k * 2, none⟩ = some (.string l[k].name) ∧ w.cell? ⟨g, k * 2 + 1, none⟩ = some (.string l[k].value) := by
  refine ⟨?_, ?_⟩
  · rw [h.cell, hx _ h1 (by omega)]
    have := flat_get Hd.enc_length l k hk 0 (by omega)
    rw [Nat.add_zero] at this
    rw [this]; rfl
  · rw [h.cell, hx _ (by omega) h2, flat_get Hd.enc_length l k hk 1 (by omega)]; rfl
/-- A row half worked on: its first places hold A, those from k on what they held. -/
structure Half (g cap m k : Nat) (A l : List Hd) (w : World) : Prop where
  ex : ∃ cs, Blk w g cs 131 ∧ cs.size = cap * 2 ∧ (∀ q, q < m * 2 → cs[q]? = (A.flatMap Hd.enc)[q]?) ∧ (∀ q, k * 2 ≤ q → q < l.length * 2 → cs[q]? = (l.flatMap Hd.enc)[q]?)
  len : A.length = m
theorem Half.set {g cap m k : Nat} {A l : List Hd} {w w' : World} {x : Hd} {cs : Array Value} (hb : Blk w g cs 131) (hs : cs.size = cap * 2) (h1 : ∀ q, q < m * 2 → cs[q]? = (A.flatMap Hd.enc)[q]?) (h2 : ∀ q, k * 2 ≤ q → q < l.length * 2 → cs[q]? = (l.flatMap Hd.enc)[q]?) (hA : A.length = m) (hmk : m < k) (hkc : k ≤ cap)
    (hw : w' = (w.setCell ⟨g, m * 2, none⟩ (.string x.name)).setCell ⟨g, m * 2 + 1, none⟩ (.string x.value)) : Half g cap (m + 1) (k + 1) (A ++ [x]) l w' := by
  subst hw
  refine ⟨⟨_, (hb.set _ _).set _ _, by simpa using hs, fun q hq => ?_, fun q hq hq2 => ?_⟩, by simp [hA]⟩
  · rw [Array.getElem?_setIfInBounds, Array.getElem?_setIfInBounds, List.flatMap_append, List.getElem?_append, flat_length Hd.enc_length, hA]
    by_cases e1 : m * 2 + 1 = q
    · subst e1
      rw [if_pos rfl, if_pos (by simp; omega), if_neg (by omega)]
      have : m * 2 + 1 - m * 2 = 1 := by omega
      rw [this]; rfl
    · rw [if_neg e1]
      by_cases e2 : m * 2 = q
      · subst e2
        rw [if_pos rfl, if_pos (by omega), if_neg (by omega), Nat.sub_self]; rfl
      · rw [if_neg e2, if_pos (by omega)]
        exact h1 q (by omega)
  · rw [Array.getElem?_setIfInBounds, Array.getElem?_setIfInBounds, if_neg (by omega), if_neg (by omega)]
    exact h2 q (by omega) hq2
def DelQ (base g cap : Nat) (A : List Hd) (w : World) (e : Ending) (w' : World) : Prop := e = .returned (.slice (some ⟨g, 0, none⟩) A.length cap) ∧ Only [g] w w' ∧ Hid (w'.ownsRow base 131 2 (.slice (some ⟨g, 0, none⟩) A.length cap) A.length (A.flatMap Hd.enc))
set_option maxRecDepth 100000 in
set_option maxHeartbeats 1000000 in
theorem delete_hit {pn : Nat → Prop} (base g cap : Nat) (l : List Hd) (ns : List ByteArray) (vn : Value) (B : Nat) (W : World) (h : W.ownsRow base 131 2 (.slice (some ⟨g, 0, none⟩) l.length cap) l.length (l.flatMap Hd.enc)) (hl : l.length ≤ 1000000) (hB : B < W.heap.size) (hBg : B ≠ g) (hc : W.cell? ⟨B, 0, none⟩ = some vn)
    (hr : RowsOf pn sEnc 1 W vn ns) (hpn : ∀ b, pn b → b < W.heap.size ∧ b ≠ g) (hln : ns.length ≤ 1000000000000) (hx : Hd.ixN l ns < l.length) :
    Calls Try.prog 122 #[.slice (some ⟨g, 0, none⟩) l.length cap, .func (.func 123) #[] #[.pointer (some ⟨B, 0, none⟩)]] W (DelQ base g cap (Hd.outR l ns) W) := by
  have HIX := hid (index_out _ l ns vn B W (RowsOf.of_owns Hd.enc_length h) (fun b hb => hb.2) (by omega) hB hc hr (fun b hb => (hpn b hb).1) hln)
  have hat : Hid (Hd.atN l ns = (Hd.ixN l ns : Nat)) := hid (if_pos hx)
  rw [hat.out] at HIX
  have hfirst := hid (Hd.out_first hx)
  obtain ⟨cur, hbg, hblk, hnc, hcm, hcs, htake⟩ : ∃ cur, base ≤ g ∧ Blk W g cur 131 ∧ l.length ≤ cap ∧ cap ≤ maxLen ∧ cur.size = cap * 2 ∧ cur.toList.take (l.length * 2) = l.flatMap Hd.enc := by
    rcases h.2 with ⟨h3, _⟩ | ⟨g', cp, cur, e, q1, q2, q3, q4, q5, q6⟩
    · cases h3
    · cases e; exact ⟨cur, q1, q2, q3, q4, q5, q6⟩
  have hcur : ∀ q, q < l.length * 2 → cur[q]? = (l.flatMap Hd.enc)[q]? := fun q hq => by
    rw [← htake, List.getElem?_take, if_pos hq, Array.getElem?_toList]
  obtain ⟨i0, hi0⟩ : ∃ i, i = Hd.ixN l ns := ⟨_, rfl⟩
  rw [← hi0] at hx HIX hfirst
  have H0 : Hid (Half g cap i0 (i0 + 1) (Hd.outR (l.take (i0 + 1)) ns) l W) := by
    refine ⟨⟨cur, hblk, hcs, fun q hq => ?_, fun q _ hq2 => hcur q hq2⟩, by rw [hfirst.out, List.length_take]; omega⟩
    rw [hcur q (by omega), hfirst.out]
    conv => lhs; rw [← List.take_append_drop i0 l, List.flatMap_append]
    rw [List.getElem?_append_left (by rw [flat_length Hd.enc_length, List.length_take]; omega)]
  have hgl := hblk.lt
  have HCB := hid hc
  have HR := hid hr
  have HPN := hid hpn
  have hz : ∃ z : Value, (∀ w, (zeroValue 131).run Try.prog w = .ok z w) ∧ z.cells.size = 2 ∧ ∀ v ∈ z.cells.toList, v.oneCell' = true := by
    refine ⟨.agg #[.string ByteArray.empty, .string ByteArray.empty], Try.zeroValue131, rfl, ?_⟩
    intro v hv
    simp only [Value.cells, List.mem_cons, List.not_mem_nil, or_false] at hv
    rcases hv with rfl | rfl <;> rfl
  have HZ := hid hz
  clear h hat hblk hcs htake hcur hi0 hc hr hpn hz
  have e1 : (((i0 : Nat) : Int) == -1) = false := by rw [beq_eq_false_iff_ne]; omega
  go_enter Try.func122, Try.ntmps122
  go_wp2_with fail
  refine HIX.out.mono ?_
  rintro e w1 ⟨rfl, hb1⟩
  have HO1 : Hid (Only [g] W w1) := Only.of_below hb1
  have HF1 : Hid (Half g cap i0 (i0 + 1) (Hd.outR (l.take (i0 + 1)) ns) l w1) := by
    obtain ⟨⟨cs, q1, q2⟩, q3⟩ := H0.out
    exact ⟨⟨cs, q1.later hb1, q2⟩, q3⟩
  clear hb1 H0 HIX
  go_wp2_with fail
  go_loopw [5, 6] (fun a b wr => ∃ m k : Nat, k ≤ l.length ∧ m < k ∧ a = .int .i64 m ∧ b = .int .i64 k ∧ Only [g] W wr ∧ Half g cap m k (Hd.outR (l.take k) ns) l wr) (fun _ b _ => l.length - (intOf b).toNat)
  case atStart => exact ⟨i0, i0 + 1, by omega, by omega, rfl, by go_num, HO1.out, HF1.out⟩
  case round =>
    obtain ⟨m, k, hk, hmk, rfl, rfl, ho, hf⟩ := hrel
    have HO := hid ho
    obtain ⟨⟨cs, hb, hs, h1, h2⟩, hA⟩ := hf
    have hws := ho.size
    by_cases hlt : k < l.length
    · obtain ⟨c0, c1⟩ := row2 hb (lo := k * 2) (hi := l.length * 2) (l := l) (fun q q1 q2 => h2 q q1 q2) k hlt (by omega) (by omega)
      obtain ⟨bq, hq⟩ : ∃ bq, Hd.hasN ns l[k] = bq := ⟨_, rfl⟩
      have HLit : Hid (∀ w', Below wr.heap.size wr w' → Calls Try.prog 123 #[.agg #[.string l[k].name, .string l[k].value], .pointer (some ⟨B, 0, none⟩)] w' fun e w'' => e = .returned (.bool bq) ∧ Below w'.heap.size w' w'') := fun w' hw' => by
        have hBr : B < wr.heap.size := by omega
        refine lit_out (p := pn) l[k] ns vn bq B w' (Nat.lt_of_lt_of_le hBr hw'.size) ?_ ?_ (fun b hb => Nat.lt_of_lt_of_le (HPN.out b hb).1 (Nat.le_trans hws hw'.size)) hln hq
        · rw [hw'.cell (p := ⟨B, 0, none⟩) hBr, HO.out.cell (p := ⟨B, 0, none⟩) hB (by simpa using hBg)]
          exact HCB.out
        · exact (HR.out.only HO.out (fun b hb => ⟨(HPN.out b hb).1, by simpa using (HPN.out b hb).2⟩)).below hw' (fun b hb => Nat.lt_of_lt_of_le (HPN.out b hb).1 hws)
      have hsn : Hid (Hd.outR (l.take (k + 1)) ns = if bq = true then Hd.outR (l.take k) ns else Hd.outR (l.take k) ns ++ [l[k]]) := hid (by
        rw [List.take_succ_eq_append_getElem hlt, Hd.outR_snoc, ← hq]; rfl)
      have hcapk : k < cap := by omega
      generalize l[k] = y at c0 c1 HLit hsn
      generalize Hd.outR (l.take k) ns = A at h1 hA hsn
      clear hq
      have hgr : g < wr.heap.size := by omega
      have HHB := hid hb
      have HH1 := hid h1
      have HH2 := hid h2
      have HHS := hid hs
      clear hb h1 h2 hs ho
      cases bq
      · go_wp2_with fail
        refine (HLit.out _ (by go_grown)).mono ?_
        rintro e w2 ⟨rfl, hb2⟩
        have hbw : Below wr.heap.size wr w2 := Below.trans (by go_grown) (hb2.mono (by simp))
        have hk2 : Blk w2 wr.heap.size #[.string y.name, .string y.value] 131 := (Blk.new wr _ _).later hb2
        have z0 : w2.cell? ⟨wr.heap.size, 0, none⟩ = some (.string y.name) := hk2.cell 0
        have z1 : w2.cell? ⟨wr.heap.size, 1, none⟩ = some (.string y.value) := hk2.cell 1
        have hbg2 := HHB.out.later hbw
        obtain ⟨t0, ht0⟩ : ∃ v, w2.cell? ⟨g, m * 2, none⟩ = some v := ⟨cs[m * 2]'(by rw [HHS.out]; omega), by rw [hbg2.cell, Array.getElem?_eq_getElem]⟩
        obtain ⟨t1, ht1⟩ : ∃ v, w2.cell? ⟨g, m * 2 + 1, none⟩ = some v := ⟨cs[m * 2 + 1]'(by rw [HHS.out]; omega), by rw [hbg2.cell, Array.getElem?_eq_getElem]⟩
        have f0 := hbg2.free (m * 2)
        have f1 := hbg2.free (m * 2 + 1)
        have hng : ¬ g = wr.heap.size := by omega
        have hng2 : ¬ wr.heap.size = g := by omega
        have HF2 : Hid (Half g cap (m + 1) (k + 1) (Hd.outR (l.take (k + 1)) ns) l ((w2.setCell ⟨g, m * 2, none⟩ (.string y.name)).setCell ⟨g, m * 2 + 1, none⟩ (.string y.value))) := hid (by
          rw [hsn.out, if_neg (by simp)]
          exact Half.set hbg2 HHS.out HH1.out HH2.out hA hmk (by omega) rfl)
        have HO2 : Hid (Only [g] W ((w2.setCell ⟨g, m * 2, none⟩ (.string y.name)).setCell ⟨g, m * 2 + 1, none⟩ (.string y.value))) := hid (((HO.out.trans (Only.of_below hbw)).setCell (by simp) _).setCell (by simp) _)
        clear hb2 hbw hk2 hbg2
        go_wp2_with fail
        go_roundw
        case rel => exact ⟨m + 1, k + 1, by omega, by omega, by go_num, by go_num, HO2.out, HF2.out⟩
        case measure => simp [intOf]; omega
      · go_wp2_with fail
        refine (HLit.out _ (by go_grown)).mono ?_
        rintro e w2 ⟨rfl, hb2⟩
        have hbw : Below wr.heap.size wr w2 := Below.trans (by go_grown) (hb2.mono (by simp))
        have HF2 : Hid (Half g cap m (k + 1) (Hd.outR (l.take (k + 1)) ns) l w2) := hid (by
          rw [hsn.out, if_pos (by simp)]
          exact ⟨⟨cs, HHB.out.later hbw, HHS.out, HH1.out, fun q q1 q2 => HH2.out q (by omega) q2⟩, hA⟩)
        have HO2 : Hid (Only [g] W w2) := hid (HO.out.trans (Only.of_below hbw))
        clear hb2 hbw
        go_wp2_with fail
        go_roundw
        case rel => exact ⟨m, k + 1, by omega, by omega, rfl, by go_num, HO2.out, HF2.out⟩
        case measure => simp [intOf]; omega
    · obtain rfl : k = l.length := by omega
      rw [List.take_length] at h1 hA
      obtain ⟨A, hA0⟩ : ∃ A, A = Hd.outR l ns := ⟨_, rfl⟩
      rw [← hA0] at h1 hA
      have HA0 := hid hA0
      clear hA0
      obtain ⟨z, hzv, hzsz, hzone⟩ := HZ.out
      obtain ⟨zs, hzl, hcl⟩ := run_clear_cells (P := Try.prog) (t := 22) (e := 131) (size := 2) wr Try.underlying22 z hzv hzsz hzone g (m * 2) (l.length - m) (cap - m) (by omega) (fun q hq => by rw [hb.cell, Array.getElem?_eq_getElem (by rw [hs]; omega)]; rfl) (fun q _ => hb.free _)
      obtain ⟨cs2, hb2, hc2⟩ := Blk.setCells (w := wr) (cs := cs) (t := 131) zs (m * 2) hb
      have fin : DelQ base g cap A W (.returned (.slice (some ⟨g, 0, none⟩) m cap)) (wr.setCells g (m * 2) zs) := by
        refine ⟨by rw [hA], Only.setCells (by simp) _ _ ho, ?_⟩
        show World.ownsRow _ _ _ _ _ _ _
        refine owns_of_blk hb2 hbg (by rw [hc2, hs]) (by omega) hcm (flat_length Hd.enc_length A) fun q hq => ?_
        rw [flat_length Hd.enc_length, hA] at hq
        rw [← hb2.cell, World.cell?_setCells_out g zs (m * 2) wr ⟨g, q, none⟩ (fun _ _ => .inl hq), hb.cell, h1 q hq]
      have HFin := hid fin
      have k1 : (0 : Int) ≤ (m : Int) := by omega
      have k2 : (m : Int) ≤ (l.length : Int) := by omega
      have k3 : (m : Int) ≤ (cap : Int) := by omega
      have k4 : (l.length : Int) ≤ (cap : Int) := by omega
      have k5 : ¬ cap = m := by omega
      clear h1 h2 hb hb2 hc2 hzl hzv hzsz hzone fin ho HZ
      go_wp2_with fail
      go_ret
      rw [← HA0.out]
      exact HFin.out
end C04
end Go.Proofs.Ytpamnknfccmgcaa
