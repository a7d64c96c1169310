/- Walks of layer 4 (head): the reference's Set; lists alike; few headers; no condition. -/
import Derived.Test.YtpamnknfccmgcaaH04
namespace Go.Proofs.Ytpamnknfccmgcaa
open Go.RowKit Go.Peri
namespace C04
def metB (l : List Hd) (n : ByteArray) (k : Nat) : Bool := decide (Hd.ix (l.take k) n < (l.take k).length)
set_option maxRecDepth 100000 in
theorem rset_any {p : Nat → Prop} (v : Value) (l : List Hd) (n u : ByteArray) (W : World) (h : RowsOf p Hd.enc 2 W v l) (hp : ∀ b, p b → b < W.heap.size) (hl : l.length ≤ 1000000) :
    Calls Try.prog 44 #[v, .string n, .string u] W (NewRows Hd.enc 2 131 W (Hd.setR l n u)) := by
  obtain ⟨a, cap, rfl, hlc, hcm, _, hcell⟩ := h
  have HC := hid hcell
  have HP := hid hp
  clear hcell hp
  go_enter Try.func44, Try.ntmps44
  go_wp2_with fail
  go_loopw [7, 8, 9] (fun o met i wr => ∃ k : Nat, k ≤ l.length ∧ i = .int .i64 k ∧ met = .bool (metB l n k) ∧ (Hd.setK (l.take k) n u).length ≤ k ∧ Below W.heap.size W wr ∧ wr.ownsRow W.heap.size 131 2 o (Hd.setK (l.take k) n u).length ((Hd.setK (l.take k) n u).flatMap Hd.enc)) (fun _ _ i _ => l.length - (intOf i).toNat)
  case atStart => exact ⟨0, Nat.zero_le _, rfl, rfl, Nat.le_refl _, Below.refl _ _, World.ownsRow_nil _ _ _ _⟩
  case round =>
    obtain ⟨k, hk, rfl, rfl, hlen, hb, hown⟩ := hrel
    have HB := hid hb
    by_cases hlt : k < l.length
    · obtain ⟨b, off, rfl, hpb, hc⟩ := HC.out.resolve_left (by intro e; rw [e] at hlt; simp at hlt)
      have hbl := HP.out b hpb
      obtain ⟨c0, c1⟩ := Hd.cells (fun j u hu => (HB.out.cell (p := ⟨b, off + k * 2 + j, none⟩) hbl).trans (hc k hlt j u hu))
      have hts : l.take (k + 1) = l.take k ++ [l[k]] := List.take_succ_eq_append_getElem hlt
      have hmet : metB l n (k + 1) = (metB l n k || decide (l[k].name = n)) := by unfold metB; rw [hts, Hd.met_snoc]
      obtain ⟨bq, hq⟩ : ∃ bq, decide (l[k].name = n) = bq := ⟨_, rfl⟩
      obtain ⟨bm, hm⟩ : ∃ bm, metB l n k = bm := ⟨_, rfl⟩
      obtain ⟨s1, s2⟩ := strEq_of hq
      have H1 : Hid (bq = false → Hd.setK (l.take (k + 1)) n u = Hd.setK (l.take k) n u ++ [l[k]]) := hid (fun e => by
        rw [e] at hq; rw [hts, Hd.setK_keep _ _ _ _ (of_decide_eq_false hq)])
      have H2 : Hid (bq = true → bm = true → Hd.setK (l.take (k + 1)) n u = Hd.setK (l.take k) n u) := hid (fun e e2 => by
        rw [e] at hq; rw [e2] at hm; rw [hts, Hd.setK_skip _ _ _ _ (of_decide_eq_true hq) (of_decide_eq_true hm)])
      have H3 : Hid (bq = true → bm = false → Hd.setK (l.take (k + 1)) n u = Hd.setK (l.take k) n u ++ [⟨n, u⟩]) := hid (fun e e2 => by
        rw [e] at hq; rw [e2] at hm; rw [hts, Hd.setK_met _ _ _ _ (of_decide_eq_true hq) (of_decide_eq_false hm)])
      rw [hm, hq] at hmet
      have HMET := hid hmet
      rw [hm]
      have hws := HB.out.size
      clear hc hb hq hm hts hmet
      generalize l[k] = y at c0 c1 H1 s1 s2
      generalize Hd.setK (l.take k) n u = acc at hown hlen H1 H2 H3
      have HOWN := hid hown
      clear hown
      cases bq
      · have hsn := hid (H1.out (by simp))
        clear H1 H2 H3
        go_wp2_with (at_builtin; refine wpList_push elemH rfl _ _ rfl W.heap.size _ _ _ [.string y.name, .string y.value] rfl HOWN.out rfl rfl rfl (by simp [Value.oneCell']) ?_ ?_ ?_ ?_)
        · unfold maxLen; omega
        · omega
        · omega
        intro v2 w2 hown2 hb2
        have HB3 := hid (HB.out.trans hb2)
        have HO3 : Hid (w2.ownsRow W.heap.size 131 2 v2 (Hd.setK (l.take (k + 1)) n u).length ((Hd.setK (l.take (k + 1)) n u).flatMap Hd.enc)) := hid (by rw [hsn.out, List.flatMap_append, List.length_append]; exact hown2)
        have HL : Hid ((Hd.setK (l.take (k + 1)) n u).length ≤ k + 1) := hid (by rw [hsn.out, List.length_append]; simp; omega)
        clear hown2 hb2
        go_wp2_with fail
        go_roundw
        case rel => exact ⟨k + 1, by omega, by go_num, by rw [HMET.out]; simp, HL.out, HB3.out, HO3.out⟩
        case measure => simp [intOf]; omega
      · cases bm
        · have hsn := hid (H3.out (by simp) (by simp))
          clear H1 H2 H3
          go_wp2_with (at_builtin; refine wpList_push elemH rfl _ _ rfl W.heap.size _ _ _ [.string n, .string u] rfl HOWN.out rfl rfl rfl (by simp [Value.oneCell']) ?_ ?_ ?_ ?_)
          · unfold maxLen; omega
          · omega
          · omega
          intro v2 w2 hown2 hb2
          have HB3 := hid (HB.out.trans hb2)
          have HO3 : Hid (w2.ownsRow W.heap.size 131 2 v2 (Hd.setK (l.take (k + 1)) n u).length ((Hd.setK (l.take (k + 1)) n u).flatMap Hd.enc)) := hid (by rw [hsn.out, List.flatMap_append, List.length_append]; exact hown2)
          have HL : Hid ((Hd.setK (l.take (k + 1)) n u).length ≤ k + 1) := hid (by rw [hsn.out, List.length_append]; simp; omega)
          clear hown2 hb2
          go_wp2_with fail
          go_roundw
          case rel => exact ⟨k + 1, by omega, by go_num, by rw [HMET.out]; rfl, HL.out, HB3.out, HO3.out⟩
          case measure => simp [intOf]; omega
        · have hsn := hid (H2.out (by simp) (by simp))
          clear H1 H2 H3
          go_wp2_with fail
          go_roundw
          case rel => exact ⟨k + 1, by omega, by go_num, by rw [HMET.out]; rfl, by rw [hsn.out]; omega, HB.out, by rw [hsn.out]; exact HOWN.out⟩
          case measure => simp [intOf]; omega
    · obtain rfl : k = l.length := by omega
      have he := Hd.setR_eq l n u
      obtain ⟨bm, hm⟩ : ∃ bm, metB l n l.length = bm := ⟨_, rfl⟩
      rw [hm]
      unfold metB at hm
      rw [List.take_length] at hm hown hlen
      have hws := HB.out.size
      clear hb
      generalize Hd.setK l n u = acc at hown hlen he
      have HOWN := hid hown
      cases bm
      · rw [if_neg (of_decide_eq_false hm)] at he
        have HE := hid he
        clear hown he hm
        go_wp2_with (at_builtin; refine wpList_push elemH rfl _ _ rfl W.heap.size _ _ _ [.string n, .string u] rfl HOWN.out rfl rfl rfl (by simp [Value.oneCell']) ?_ ?_ ?_ ?_)
        · unfold maxLen; omega
        · omega
        · omega
        intro v2 w2 hown2 hb2
        have HB3 := hid (HB.out.trans hb2)
        have hown3 : w2.ownsRow W.heap.size 131 2 v2 (Hd.setR l n u).length ((Hd.setR l n u).flatMap Hd.enc) := by rw [HE.out, List.flatMap_append, List.length_append]; exact hown2
        obtain ⟨a5, cap5, rfl⟩ := owns_form hown3
        have HO3 := hid hown3
        clear hown2 hb2 hown3
        go_wp2_with fail
        go_ret
        exact ⟨a5, cap5, rfl, HB3.out, HO3.out⟩
      · rw [if_pos (of_decide_eq_true hm)] at he
        obtain ⟨a5, cap5, rfl⟩ := owns_form hown
        have HE := hid he
        clear hown he hm
        go_wp2_with fail
        go_ret
        rw [HE.out]
        exact ⟨a5, cap5, rfl, HB.out, HOWN.out⟩
end C04
end Go.Proofs.Ytpamnknfccmgcaa
