/- Walks of layer 4 (head): Set; the reference's Without and Set; no condition. -/
import Derived.Test.YtpamnknfccmgcaaH04
namespace Go.Proofs.Ytpamnknfccmgcaa
open Go.RowKit Go.Peri
namespace C04
theorem owns_below {w w' : World} {base : Nat} {e : TypeId} {size : Nat} {v : Value} {n : Nat} {xs : List Value} (h : w.ownsRow base e size v n xs) (hb : Below w.heap.size w w') : w'.ownsRow base e size v n xs :=
  owns_keep h (Only.of_below hb : Only [] w w') (fun k _ hk => by simp at hk)
theorem any_snoc (ns : List ByteArray) (s : ByteArray) (q : Nat) (hq : q < ns.length) : (ns.take (q + 1)).any (fun x => decide (x = s)) = ((ns.take q).any (fun x => decide (x = s)) || decide (ns[q] = s)) := by
  rw [List.take_succ_eq_append_getElem hq, List.any_append]
  simp
set_option maxRecDepth 100000 in
theorem rwithout_any {p pn : Nat → Prop} (v vn : Value) (l : List Hd) (ns : List ByteArray) (W : World) (h : RowsOf p Hd.enc 2 W v l) (hp : ∀ b, p b → b < W.heap.size) (hl : l.length ≤ 1000000) (hr : RowsOf pn sEnc 1 W vn ns) (hpn : ∀ b, pn b → b < W.heap.size) (hln : ns.length ≤ 1000000) :
    Calls Try.prog 46 #[v, vn] W (NewRows Hd.enc 2 131 W (Hd.outR l ns)) := by
  obtain ⟨a, cap, rfl, hlc, hcm, _, hcell⟩ := h
  obtain ⟨an, capn, rfl, hlcn, hcmn, _, hcelln⟩ := hr
  have HC := hid hcell
  have HCN := hid hcelln
  have HP := hid hp
  have HPN := hid hpn
  clear hcell hp hcelln hpn
  go_enter Try.func46, Try.ntmps46
  go_wp2_with fail
  go_loopw [5, 6] (fun u i wr => ∃ k : Nat, k ≤ l.length ∧ i = .int .i64 k ∧ Below W.heap.size W wr ∧ wr.ownsRow W.heap.size 131 2 u (Hd.outR (l.take k) ns).length ((Hd.outR (l.take k) ns).flatMap Hd.enc)) (fun _ i _ => l.length - (intOf i).toNat)
  case atStart => exact ⟨0, Nat.zero_le _, rfl, Below.refl _ _, World.ownsRow_nil _ _ _ _⟩
  case round =>
    obtain ⟨k, hk, rfl, hb, hown⟩ := hrel
    have HB := hid hb
    obtain ⟨wo, rfl⟩ : ∃ wo : World, wo = wr := ⟨_, rfl⟩
    by_cases hlt : k < l.length
    · obtain ⟨b, off, rfl, hpb, hc⟩ := HC.out.resolve_left (by intro e; rw [e] at hlt; simp at hlt)
      have hbl := HP.out b hpb
      obtain ⟨c0, c1⟩ := Hd.cells (fun j u hu => (HB.out.cell (p := ⟨b, off + k * 2 + j, none⟩) hbl).trans (hc k hlt j u hu))
      have hsn : Hid (Hd.outR (l.take (k + 1)) ns = if ns.any (fun x => decide (x = l[k].name)) then Hd.outR (l.take k) ns else Hd.outR (l.take k) ns ++ [l[k]]) := hid (by rw [List.take_succ_eq_append_getElem hlt, Hd.outR_snoc])
      have hal := Hd.outR_len (l.take k) ns
      rw [List.length_take] at hal
      have hws := HB.out.size
      have hbo : b < wo.heap.size := by omega
      generalize l[k] = y at c0 c1 hsn
      generalize Hd.outR (l.take k) ns = acc at hown hsn hal
      have HOWN := hid hown
      have C0 := hid c0
      have C1 := hid c1
      clear hc hb hown c0 c1
      go_wp2_with fail
      go_loopw [7, 8] (fun gone i w' => ∃ q : Nat, q ≤ ns.length ∧ i = .int .i64 q ∧ gone = .bool ((ns.take q).any (fun x => decide (x = y.name))) ∧ Below wo.heap.size wo w') (fun _ i _ => ns.length - (intOf i).toNat)
      case atStart => exact ⟨0, Nat.zero_le _, rfl, by simp, Below.refl _ _⟩
      case round =>
        obtain ⟨q, hq, rfl, rfl, hb⟩ := hrel
        have HB1 := hid hb
        clear hb
        by_cases hltq : q < ns.length
        · obtain ⟨bn, offn, rfl, hpbn, hcn⟩ := HCN.out.resolve_left (by intro e; rw [e] at hltq; simp at hltq)
          have n0 := (HB1.out.cell (p := ⟨bn, offn + q, none⟩) (Nat.lt_of_lt_of_le (HPN.out bn hpbn) hws)).trans ((HB.out.cell (p := ⟨bn, offn + q, none⟩) (HPN.out bn hpbn)).trans (s_cell hcn q hltq))
          have d0 := (HB1.out.cell (p := ⟨b, off + k * 2, none⟩) hbo).trans C0.out
          have hsnq := hid (any_snoc ns y.name q hltq)
          obtain ⟨bq, hbq⟩ : ∃ bq, decide (ns[q] = y.name) = bq := ⟨_, rfl⟩
          obtain ⟨s1, s2⟩ := strEq_of hbq
          rw [hbq] at hsnq
          generalize ns[q] = x at n0 s1 s2
          generalize (ns.take q).any (fun x => decide (x = y.name)) = bg at hsnq
          have i1 : (0 : Int) ≤ (q : Int) := by omega
          have i2 : (q : Int) < (ns.length : Int) := by omega
          have i3 : (0 : Int) ≤ (k : Int) := by omega
          have i4 : (k : Int) < (l.length : Int) := by omega
          clear hcn hbq
          cases bg
          · go_wp2_with fail
            go_quiet (fail)
            go_wp2_with fail
            go_roundw
            case rel => exact ⟨q + 1, by omega, by go_num, by rw [hsnq.out]; rfl, HB1.out.trans ⟨rfl, rfl, rfl, Nat.le_refl _, fun _ _ => rfl⟩⟩
            case measure => simp [intOf]; omega
          · go_wp2_with fail
            go_quiet (fail)
            go_wp2_with fail
            go_roundw
            case rel => exact ⟨q + 1, by omega, by go_num, by rw [hsnq.out]; rfl, HB1.out.trans ⟨rfl, rfl, rfl, Nat.le_refl _, fun _ _ => rfl⟩⟩
            case measure => simp [intOf]; omega
        · obtain rfl : q = ns.length := by omega
          rw [List.take_length]
          generalize ns.any (fun x => decide (x = y.name)) = bg at hsn
          have HBW : Hid (Below W.heap.size W wr) := HB.out.trans (HB1.out.mono hws)
          have HOW := hid (owns_below HOWN.out HB1.out)
          have d0 := (HB1.out.cell (p := ⟨b, off + k * 2, none⟩) hbo).trans C0.out
          have d1 := (HB1.out.cell (p := ⟨b, off + k * 2 + 1, none⟩) hbo).trans C1.out
          have hws2 := HBW.out.size
          cases bg
          · have hsn2 : Hid (Hd.outR (l.take (k + 1)) ns = acc ++ [y]) := hid (by rw [hsn.out]; rfl)
            clear hsn
            go_wp2_with (at_builtin; refine wpList_push elemH rfl _ _ rfl W.heap.size _ _ _ [.string y.name, .string y.value] rfl HOW.out rfl rfl rfl (by simp [Value.oneCell']) ?_ ?_ ?_ ?_)
            · unfold maxLen; omega
            · omega
            · omega
            intro v2 w2 hown2 hb2
            have HB3 := hid (HBW.out.trans hb2)
            have HO3 : Hid (w2.ownsRow W.heap.size 131 2 v2 (Hd.outR (l.take (k + 1)) ns).length ((Hd.outR (l.take (k + 1)) ns).flatMap Hd.enc)) := hid (by rw [hsn2.out, List.flatMap_append, List.length_append]; exact hown2)
            clear hown2 hb2
            go_wp2_with fail
            go_roundw
            case rel => exact ⟨k + 1, by omega, by go_num, HB3.out, HO3.out⟩
            case measure => simp [intOf]; omega
          · have hsn2 : Hid (Hd.outR (l.take (k + 1)) ns = acc) := hid (by rw [hsn.out]; rfl)
            clear hsn
            go_wp2_with fail
            go_roundw
            case rel => exact ⟨k + 1, by omega, by go_num, HBW.out, by rw [hsn2.out]; exact HOW.out⟩
            case measure => simp [intOf]; omega
    · obtain rfl : k = l.length := by omega
      rw [List.take_length] at hown
      obtain ⟨a5, cap5, rfl⟩ := owns_form hown
      have HOWN := hid hown
      clear hown hb
      go_wp2_with fail
      go_ret
      exact ⟨a5, cap5, rfl, HB.out, HOWN.out⟩
end C04
end Go.Proofs.Ytpamnknfccmgcaa
