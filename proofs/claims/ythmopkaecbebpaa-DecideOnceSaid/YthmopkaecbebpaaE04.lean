/- Walks of layer 4 (head): the values of a name, one header more, lists alike; no condition. -/
import Derived.Test.YthmopkaecbebpaaD04
namespace Go.Proofs.Ythmopkaecbebpaa
open Go.RowKit Go.Peri
namespace C04
set_option maxRecDepth 100000 in
theorem all_any {p : Nat → Prop} (v : Value) (l : List Hd) (n : ByteArray) (W : World) (h : RowsOf p Hd.enc 2 W v l) (hp : ∀ b, p b → b < W.heap.size) (hl : l.length ≤ 1000000000) :
    Calls Try.prog 186 #[v, .string n] W (NewRows sEnc 1 9 W (Hd.allR l n)) := by
  obtain ⟨a, cap, rfl, hlc, hcm, _, hcell⟩ := h
  have HC := hid hcell
  have HP := hid hp
  clear hcell hp
  go_enter Try.func186, Try.ntmps186
  go_wp2_with fail
  go_loopw [5, 10] (fun u i wr => ∃ k : Nat, k ≤ l.length ∧ i = .int .i64 k ∧ Below W.heap.size W wr ∧ wr.ownsRow W.heap.size 9 1 u (Hd.allR (l.take k) n).length ((Hd.allR (l.take k) n).flatMap sEnc)) (fun _ i _ => l.length - (intOf i).toNat)
  case atStart => exact ⟨0, Nat.zero_le _, rfl, Below.refl _ _, World.ownsRow_nil _ _ _ _⟩
  case round =>
    obtain ⟨k, hk, rfl, hb, hown⟩ := hrel
    have HB := hid hb
    by_cases hlt : k < l.length
    · obtain ⟨b, off, rfl, hpb, hc⟩ := HC.out.resolve_left (by intro e; rw [e] at hlt; simp at hlt)
      have hbl := HP.out b hpb
      obtain ⟨c0, c1⟩ := Hd.cells (fun j u hu => (HB.out.cell (p := ⟨b, off + k * 2 + j, none⟩) hbl).trans (hc k hlt j u hu))
      have hsn : Hid (Hd.allR (l.take (k + 1)) n = if l[k].name = n then Hd.allR (l.take k) n ++ [l[k].value] else Hd.allR (l.take k) n) := hid (by rw [List.take_succ_eq_append_getElem hlt, Hd.allR_snoc])
      have hal := Hd.allR_len (l.take k) n
      rw [List.length_take] at hal
      obtain ⟨bq, hq⟩ : ∃ bq, decide (l[k].name = n) = bq := ⟨_, rfl⟩
      obtain ⟨s1, s2⟩ := strEq_of hq
      have HQ := hid hq
      have hws := HB.out.size
      clear hc hb hq
      generalize l[k] = y at c0 c1 hsn s1 s2 HQ
      generalize Hd.allR (l.take k) n = acc at hown hsn hal
      have HOWN := hid hown
      clear hown
      cases bq
      · have hsn2 : Hid (Hd.allR (l.take (k + 1)) n = acc) := hid (by rw [hsn.out, if_neg (of_decide_eq_false HQ.out)])
        go_wp2_with fail
        go_roundw
        case rel => exact ⟨k + 1, by omega, by go_num, HB.out.alloc hws _, by rw [hsn2.out]; exact HOWN.out.alloc _⟩
        case measure => simp [intOf]; omega
      · have hsn2 : Hid (Hd.allR (l.take (k + 1)) n = acc ++ [y.value]) := hid (by rw [hsn.out, if_pos (of_decide_eq_true HQ.out)])
        have HB2 : Hid (Below W.heap.size W (wr.alloc (.cells #[.string y.name, .string y.value] 189))) := HB.out.alloc hws _
        have HO2 : Hid ((wr.alloc (.cells #[.string y.name, .string y.value] 189)).ownsRow W.heap.size 9 1 u5 acc.length (acc.flatMap sEnc)) := HOWN.out.alloc _
        have HSZ : Hid ((wr.alloc (.cells #[.string y.name, .string y.value] 189)).heap.size = wr.heap.size + 1) := hid (by simp)
        go_wp2_with (at_builtin; refine wpList_pushH elemS rfl _ _ rfl W.heap.size _ _ _ [.string y.value] rfl HO2.out rfl (wr.heap.size + 1) HSZ.out rfl rfl (by simp [Value.oneCell']) ?_ ?_ ?_ ?_)
        · unfold maxLen; omega
        · omega
        · omega
        intro v2 w2 hown2 hb2
        have HB3 := hid (HB2.out.trans hb2)
        have HO3 : Hid (w2.ownsRow W.heap.size 9 1 v2 (Hd.allR (l.take (k + 1)) n).length ((Hd.allR (l.take (k + 1)) n).flatMap sEnc)) := hid (by rw [hsn2.out, List.flatMap_append, List.length_append]; exact hown2)
        clear hown2 hb2
        go_wp2_with fail
        go_roundw
        case rel => exact ⟨k + 1, by omega, by go_num, HB3.out, HO3.out⟩
        case measure => simp [intOf]; omega
    · obtain rfl : k = l.length := by omega
      rw [List.take_length] at hown
      obtain ⟨a5, cap5, rfl⟩ := owns_form hown
      have HOWN := hid hown
      clear hown hb
      go_wp2_with fail
      go_ret
      exact ⟨a5, cap5, rfl, HB.out, HOWN.out⟩

set_option maxRecDepth 100000 in
theorem rall_any {p : Nat → Prop} (v : Value) (l : List Hd) (n : ByteArray) (W : World) (h : RowsOf p Hd.enc 2 W v l) (hp : ∀ b, p b → b < W.heap.size) (hl : l.length ≤ 1000000000) :
    Calls Try.prog 154 #[v, .string n] W (NewRows sEnc 1 9 W (Hd.allR l n)) := by
  obtain ⟨a, cap, rfl, hlc, hcm, _, hcell⟩ := h
  have HC := hid hcell
  have HP := hid hp
  clear hcell hp
  go_enter Try.func154, Try.ntmps154
  go_wp2_with fail
  go_loopw [5, 6] (fun u i wr => ∃ k : Nat, k ≤ l.length ∧ i = .int .i64 k ∧ Below W.heap.size W wr ∧ wr.ownsRow W.heap.size 9 1 u (Hd.allR (l.take k) n).length ((Hd.allR (l.take k) n).flatMap sEnc)) (fun _ i _ => l.length - (intOf i).toNat)
  case atStart => exact ⟨0, Nat.zero_le _, rfl, Below.refl _ _, World.ownsRow_nil _ _ _ _⟩
  case round =>
    obtain ⟨k, hk, rfl, hb, hown⟩ := hrel
    have HB := hid hb
    by_cases hlt : k < l.length
    · obtain ⟨b, off, rfl, hpb, hc⟩ := HC.out.resolve_left (by intro e; rw [e] at hlt; simp at hlt)
      have hbl := HP.out b hpb
      obtain ⟨c0, c1⟩ := Hd.cells (fun j u hu => (HB.out.cell (p := ⟨b, off + k * 2 + j, none⟩) hbl).trans (hc k hlt j u hu))
      have hsn : Hid (Hd.allR (l.take (k + 1)) n = if l[k].name = n then Hd.allR (l.take k) n ++ [l[k].value] else Hd.allR (l.take k) n) := hid (by rw [List.take_succ_eq_append_getElem hlt, Hd.allR_snoc])
      have hal := Hd.allR_len (l.take k) n
      rw [List.length_take] at hal
      obtain ⟨bq, hq⟩ : ∃ bq, decide (l[k].name = n) = bq := ⟨_, rfl⟩
      obtain ⟨s1, s2⟩ := strEq_of hq
      have HQ := hid hq
      have hws := HB.out.size
      clear hc hb hq
      generalize l[k] = y at c0 c1 hsn s1 s2 HQ
      generalize Hd.allR (l.take k) n = acc at hown hsn hal
      have HOWN := hid hown
      clear hown
      cases bq
      · have hsn2 : Hid (Hd.allR (l.take (k + 1)) n = acc) := hid (by rw [hsn.out, if_neg (of_decide_eq_false HQ.out)])
        go_wp2_with fail
        go_roundw
        case rel => exact ⟨k + 1, by omega, by go_num, HB.out, by rw [hsn2.out]; exact HOWN.out⟩
        case measure => simp [intOf]; omega
      · have hsn2 : Hid (Hd.allR (l.take (k + 1)) n = acc ++ [y.value]) := hid (by rw [hsn.out, if_pos (of_decide_eq_true HQ.out)])
        go_wp2_with (at_builtin; refine wpList_push elemS rfl _ _ rfl W.heap.size _ _ _ [.string y.value] rfl HOWN.out rfl rfl rfl (by simp [Value.oneCell']) ?_ ?_ ?_ ?_)
        · unfold maxLen; omega
        · omega
        · omega
        intro v2 w2 hown2 hb2
        have HB3 := hid (HB.out.trans hb2)
        have HO3 : Hid (w2.ownsRow W.heap.size 9 1 v2 (Hd.allR (l.take (k + 1)) n).length ((Hd.allR (l.take (k + 1)) n).flatMap sEnc)) := hid (by rw [hsn2.out, List.flatMap_append, List.length_append]; exact hown2)
        clear hown2 hb2
        go_wp2_with fail
        go_roundw
        case rel => exact ⟨k + 1, by omega, by go_num, HB3.out, HO3.out⟩
        case measure => simp [intOf]; omega
    · obtain rfl : k = l.length := by omega
      rw [List.take_length] at hown
      obtain ⟨a5, cap5, rfl⟩ := owns_form hown
      have HOWN := hid hown
      clear hown hb
      go_wp2_with fail
      go_ret
      exact ⟨a5, cap5, rfl, HB.out, HOWN.out⟩

end C04
end Go.Proofs.Ythmopkaecbebpaa
