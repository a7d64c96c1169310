/- Walks of layer 4 (head): the values of a name, one header more, lists alike; no condition. -/
import Derived.Test.YtpamnknfccmgcaaD04
namespace Go.Proofs.Ytpamnknfccmgcaa
open Go.RowKit Go.Peri
namespace C04
set_option maxRecDepth 100000 in
theorem all_any {p : Nat → Prop} (v : Value) (l : List Hd) (n : ByteArray) (W : World) (h : RowsOf p Hd.enc 2 W v l) (hp : ∀ b, p b → b < W.heap.size) (hl : l.length ≤ 1000000000) :
    Calls Try.prog 38 #[v, .string n] W (NewRows sEnc 1 9 W (Hd.allR l n)) := by
  obtain ⟨a, cap, rfl, hlc, hcm, _, hcell⟩ := h
  have HC := hid hcell
  have HP := hid hp
  clear hcell hp
  go_enter Try.func38, Try.ntmps38
  go_wp2_with fail
  go_loopw [5, 10] (fun u i wr => ∃ k : Nat, k ≤ l.length ∧ i = .int .i64 k ∧ Below W.heap.size W wr ∧ wr.ownsRow W.heap.size 9 1 u (Hd.allR (l.take k) n).length ((Hd.allR (l.take k) n).flatMap sEnc)) (fun _ i _ => l.length - (intOf i).toNat)
  case atStart => exact ⟨0, Nat.zero_le _, rfl, Below.refl _ _, World.ownsRow_nil _ _ _ _⟩
  case round =>
    obtain ⟨k, hk, rfl, hb, hown⟩ := hrel
    have HB := hid hb
    by_cases hlt : k < l.length
    · obtain ⟨b, off, rfl, hpb, hc⟩ := HC.out.resolve_left (by intro e; rw [e] at hlt; simp at hlt)
      have hbl := HP.out b hpb
      obtain ⟨c0, c1⟩ := Hd.cells (fun j u hu => (HB.out.cell (p := ⟨b, off + k * 2 + j, none⟩) hbl).trans (hc k hlt j u hu))
      have hsn : Hid (Hd.allR (l.take (k + 1)) n = if l[k].name = n then Hd.allR (l.take k) n ++ [l[k].value] else Hd.allR (l.take k) n) := hid (by rw [List.take_succ_eq_append_getElem hlt, Hd.allR_snoc])
      have hal := Hd.allR_len (l.take k) n
      rw [List.length_take] at hal
      obtain ⟨bq, hq⟩ : ∃ bq, decide (l[k].name = n) = bq := ⟨_, rfl⟩
      obtain ⟨s1, s2⟩ := strEq_of hq
      have HQ := hid hq
      have hws := HB.out.size
      clear hc hb hq
      generalize l[k] = y at c0 c1 hsn s1 s2 HQ
      generalize Hd.allR (l.take k) n = acc at hown hsn hal
      have HOWN := hid hown
      clear hown
      cases bq
      · have hsn2 : Hid (Hd.allR (l.take (k + 1)) n = acc) := hid (by rw [hsn.out, if_neg (of_decide_eq_false HQ.out)])
        go_wp2_with fail
        go_roundw
        case rel => exact ⟨k + 1, by omega, by go_num, HB.out.alloc hws _, by rw [hsn2.out]; exact HOWN.out.alloc _⟩
        case measure => simp [intOf]; omega
      · have hsn2 : Hid (Hd.allR (l.take (k + 1)) n = acc ++ [y.value]) := hid (by rw [hsn.out, if_pos (of_decide_eq_true HQ.out)])
        have HB2 : Hid (Below W.heap.size W (wr.alloc (.cells #[.string y.name, .string y.value] 131))) := HB.out.alloc hws _
        have HO2 : Hid ((wr.alloc (.cells #[.string y.name, .string y.value] 131)).ownsRow W.heap.size 9 1 u5 acc.length (acc.flatMap sEnc)) := HOWN.out.alloc _
        have HSZ : Hid ((wr.alloc (.cells #[.string y.name, .string y.value] 131)).heap.size = wr.heap.size + 1) := hid (by simp)
        go_wp2_with (at_builtin; refine wpList_pushH elemS rfl _ _ rfl W.heap.size _ _ _ [.string y.value] rfl HO2.out rfl (wr.heap.size + 1) HSZ.out rfl rfl (by simp [Value.oneCell']) ?_ ?_ ?_ ?_)
        · unfold maxLen; omega
        · omega
        · omega
        intro v2 w2 hown2 hb2
        have HB3 := hid (HB2.out.trans hb2)
        have HO3 : Hid (w2.ownsRow W.heap.size 9 1 v2 (Hd.allR (l.take (k + 1)) n).length ((Hd.allR (l.take (k + 1)) n).flatMap sEnc)) := hid (by rw [hsn2.out, List.flatMap_append, List.length_append]; exact hown2)
        clear hown2 hb2
        go_wp2_with fail
        go_roundw
        case rel => exact ⟨k + 1, by omega, by go_num, HB3.out, HO3.out⟩
        case measure => simp [intOf]; omega
    · obtain rfl : k = l.length := by omega
      rw [List.take_length] at hown
      obtain ⟨a5, cap5, rfl⟩ := owns_form hown
      have HOWN := hid hown
      clear hown hb
      go_wp2_with fail
      go_ret
      exact ⟨a5, cap5, rfl, HB.out, HOWN.out⟩

set_option maxRecDepth 100000 in
theorem rall_any {p : Nat → Prop} (v : Value) (l : List Hd) (n : ByteArray) (W : World) (h : RowsOf p Hd.enc 2 W v l) (hp : ∀ b, p b → b < W.heap.size) (hl : l.length ≤ 1000000000) :
    Calls Try.prog 39 #[v, .string n] W (NewRows sEnc 1 9 W (Hd.allR l n)) := by
  obtain ⟨a, cap, rfl, hlc, hcm, _, hcell⟩ := h
  have HC := hid hcell
  have HP := hid hp
  clear hcell hp
  go_enter Try.func39, Try.ntmps39
  go_wp2_with fail
  go_loopw [5, 6] (fun u i wr => ∃ k : Nat, k ≤ l.length ∧ i = .int .i64 k ∧ Below W.heap.size W wr ∧ wr.ownsRow W.heap.size 9 1 u (Hd.allR (l.take k) n).length ((Hd.allR (l.take k) n).flatMap sEnc)) (fun _ i _ => l.length - (intOf i).toNat)
  case atStart => exact ⟨0, Nat.zero_le _, rfl, Below.refl _ _, World.ownsRow_nil _ _ _ _⟩
  case round =>
    obtain ⟨k, hk, rfl, hb, hown⟩ := hrel
    have HB := hid hb
    by_cases hlt : k < l.length
    · obtain ⟨b, off, rfl, hpb, hc⟩ := HC.out.resolve_left (by intro e; rw [e] at hlt; simp at hlt)
      have hbl := HP.out b hpb
      obtain ⟨c0, c1⟩ := Hd.cells (fun j u hu => (HB.out.cell (p := ⟨b, off + k * 2 + j, none⟩) hbl).trans (hc k hlt j u hu))
      have hsn : Hid (Hd.allR (l.take (k + 1)) n = if l[k].name = n then Hd.allR (l.take k) n ++ [l[k].value] else Hd.allR (l.take k) n) := hid (by rw [List.take_succ_eq_append_getElem hlt, Hd.allR_snoc])
      have hal := Hd.allR_len (l.take k) n
      rw [List.length_take] at hal
      obtain ⟨bq, hq⟩ : ∃ bq, decide (l[k].name = n) = bq := ⟨_, rfl⟩
      obtain ⟨s1, s2⟩ := strEq_of hq
      have HQ := hid hq
      have hws := HB.out.size
      clear hc hb hq
      generalize l[k] = y at c0 c1 hsn s1 s2 HQ
      generalize Hd.allR (l.take k) n = acc at hown hsn hal
      have HOWN := hid hown
      clear hown
      cases bq
      · have hsn2 : Hid (Hd.allR (l.take (k + 1)) n = acc) := hid (by rw [hsn.out, if_neg (of_decide_eq_false HQ.out)])
        go_wp2_with fail
        go_roundw
        case rel => exact ⟨k + 1, by omega, by go_num, HB.out, by rw [hsn2.out]; exact HOWN.out⟩
        case measure => simp [intOf]; omega
      · have hsn2 : Hid (Hd.allR (l.take (k + 1)) n = acc ++ [y.value]) := hid (by rw [hsn.out, if_pos (of_decide_eq_true HQ.out)])
        go_wp2_with (at_builtin; refine wpList_push elemS rfl _ _ rfl W.heap.size _ _ _ [.string y.value] rfl HOWN.out rfl rfl rfl (by simp [Value.oneCell']) ?_ ?_ ?_ ?_)
        · unfold maxLen; omega
        · omega
        · omega
        intro v2 w2 hown2 hb2
        have HB3 := hid (HB.out.trans hb2)
        have HO3 : Hid (w2.ownsRow W.heap.size 9 1 v2 (Hd.allR (l.take (k + 1)) n).length ((Hd.allR (l.take (k + 1)) n).flatMap sEnc)) := hid (by rw [hsn2.out, List.flatMap_append, List.length_append]; exact hown2)
        clear hown2 hb2
        go_wp2_with fail
        go_roundw
        case rel => exact ⟨k + 1, by omega, by go_num, HB3.out, HO3.out⟩
        case measure => simp [intOf]; omega
    · obtain rfl : k = l.length := by omega
      rw [List.take_length] at hown
      obtain ⟨a5, cap5, rfl⟩ := owns_form hown
      have HOWN := hid hown
      clear hown hb
      go_wp2_with fail
      go_ret
      exact ⟨a5, cap5, rfl, HB.out, HOWN.out⟩

set_option maxRecDepth 100000 in
theorem rget_any {p : Nat → Prop} (v : Value) (l : List Hd) (n : ByteArray) (r : ByteArray × Bool) (W : World) (h : RowsOf p Hd.enc 2 W v l) (hp : ∀ b, p b → b < W.heap.size) (hl : l.length ≤ 1000000000) (hr : Hd.getR l n = r) :
    Calls Try.prog 36 #[v, .string n] W fun e w' => e = .returned (.tuple #[.string r.1, .bool r.2]) ∧ Below W.heap.size W w' := by
  have HA := hid (rall_any v l n W h hp hl)
  unfold Hd.getR at hr
  clear h hp
  generalize Hd.allR l n = acc at hr HA
  cases acc with
  | nil =>
    subst hr
    go_enter Try.func36, Try.ntmps36
    go_wp2_with fail
    refine HA.out.mono ?_
    rintro e w1 ⟨a1, cap1, rfl, hb1, hown1⟩
    have HB1 := hid hb1
    clear hb1
    go_wp2_with fail
    go_ret2
    exact ⟨rfl, HB1.out⟩
  | cons x t =>
    subst hr
    go_enter Try.func36, Try.ntmps36
    go_wp2_with fail
    refine HA.out.mono ?_
    rintro e w1 ⟨a1, cap1, rfl, hb1, hown1⟩
    have HB1 := hid hb1
    obtain ⟨aa, cc, e9, _, _, _, hcell⟩ := RowsOf.of_owns (l := x :: t) sEnc_length hown1.out
    cases e9
    obtain ⟨b, off, rfl, hpb, hc⟩ := hcell.resolve_left (by simp)
    have c0 : w1.cell? ⟨b, off, none⟩ = some (.string x) := hc 0 (by simp) 0 _ rfl
    have hne : (((x :: t).length : Int) == 0) = false := by rw [beq_eq_false_iff_ne]; simp only [List.length_cons]; omega
    have hps : (0 : Int) < (((x :: t).length : Nat) : Int) := by simp only [List.length_cons]; omega
    have hps2 : 0 < (x :: t).length := by simp only [List.length_cons]; omega
    generalize (x :: t).length = m at hne hps hps2
    clear hb1 hc hcell hown1
    go_wp2_with fail
    go_ret2
    exact ⟨rfl, HB1.out⟩

set_option maxRecDepth 100000 in
theorem clone_any {p : Nat → Prop} (v : Value) (l : List Hd) (W : World) (h : RowsOf p Hd.enc 2 W v l) (hp : ∀ b, p b → b < W.heap.size) (hl : l.length ≤ 1000000) :
    Calls Try.prog 121 #[v] W (NewRows Hd.enc 2 131 W l) := by
  have q71 : ∀ (w : World) (a : Option Addr) (n c : Nat), (binOp .eql 22 (.slice a n c) (.slice none 0 0)).run Try.prog w = .ok (.bool a.isNone) w := fun w a n c => Lib.run_eql_slice_nil w 22 131 a n c 0 0 Try.underlying22
  have HV := hid h
  have HP := hid hp
  obtain ⟨a, cap, rfl, hlc, hcm, hnn, _⟩ := h
  clear hp
  cases a with
  | none =>
    have hc0 := hnn rfl
    subst hc0
    have hl0 : l.length = 0 := by omega
    have hln : l = [] := List.length_eq_zero_iff.1 hl0
    subst hln
    go_enter Try.func121, Try.ntmps121
    go_wp2_with fail
    go_ret
    exact ⟨none, 0, rfl, Below.refl _ _, World.ownsRow_nil _ _ _ _⟩
  | some ad =>
    have HC : Hid (Cellz p 2 (W.alloc (.cells #[] 131)) (.slice (some ad) l.length cap) l.length (l.flatMap Hd.enc)) := (HV.out.below (B := W.heap.size) ((Below.refl _ W).alloc (Nat.le_refl _) _) HP.out).cellz Hd.enc_length
    go_enter Try.func121, Try.ntmps121
    go_wp2_with (at_builtin; refine wpList_pushCells elemH rfl _ _ rfl W.heap.size _ 0 [] rfl (World.ownsRow_made W #[] 0 (Nat.le_refl _) (Nat.zero_le _) (by simp)) rfl HC.out (Hd.one l) ?_ ?_ ?_ ?_)
    · unfold maxLen; omega
    · omega
    · simp
    intro v1 w1 hown hb
    have HB : Hid (Below W.heap.size W w1) := ((Below.refl _ W).alloc (Nat.le_refl _) _).trans hb
    have hown2 : w1.ownsRow W.heap.size 131 2 v1 l.length (l.flatMap Hd.enc) := by simpa using hown
    have HR := hid hown2
    obtain ⟨a1, cap1, rfl⟩ := owns_form hown2
    clear hown hb hown2
    go_wp2_with fail
    go_ret
    exact ⟨a1, cap1, rfl, HB.out, HR.out⟩

set_option maxRecDepth 100000 in
theorem add_any {p : Nat → Prop} (v : Value) (l m : List Hd) (n u : ByteArray) (W : World) (h : RowsOf p Hd.enc 2 W v l) (hp : ∀ b, p b → b < W.heap.size) (hl : l.length ≤ 100000) (hm : l ++ [⟨n, u⟩] = m) :
    Calls Try.prog 41 #[v, .string n, .string u] W (NewRows Hd.enc 2 131 W m) := by
  have HCl := hid (clone_any v l W h hp (by omega))
  have HM := hid hm
  clear h hp hm
  go_enter Try.func41, Try.ntmps41
  go_wp2_with fail
  refine HCl.out.mono ?_
  rintro e w1 ⟨a1, cap1, rfl, hb1, hown1⟩
  have HB1 := hid hb1
  have hs1 := hb1.size
  clear hb1
  go_wp2_with (at_builtin; refine wpList_push elemH rfl _ _ rfl W.heap.size _ _ _ [.string n, .string u] rfl hown1.out rfl rfl rfl (by simp [Value.oneCell']) ?_ ?_ ?_ ?_)
  · unfold maxLen; omega
  · omega
  · omega
  intro v2 w2 hown2 hb2
  have HB2 := hid (HB1.out.trans hb2)
  have hown3 : w2.ownsRow W.heap.size 131 2 v2 m.length (m.flatMap Hd.enc) := by rw [← HM.out]; simpa [Hd.enc] using hown2
  obtain ⟨a2, cap2, rfl⟩ := owns_form hown3
  have HO := hid hown3
  clear hown2 hb2 hown3
  go_wp2_with fail
  go_ret
  exact ⟨a2, cap2, rfl, HB2.out, HO.out⟩

set_option maxRecDepth 100000 in
theorem radd_any {p : Nat → Prop} (v : Value) (l m : List Hd) (n u : ByteArray) (W : World) (h : RowsOf p Hd.enc 2 W v l) (hl : l.length ≤ 100000) (hm : l ++ [⟨n, u⟩] = m) :
    Calls Try.prog 42 #[v, .string n, .string u] W (NewRows Hd.enc 2 131 W m) := by
  have HC : Hid (Cellz p 2 W v l.length (l.flatMap Hd.enc)) := h.cellz Hd.enc_length
  have HM := hid hm
  obtain ⟨a, cap, rfl⟩ := h.form
  clear h hm
  go_enter Try.func42, Try.ntmps42
  go_wp2_with (at_builtin; refine wpList_pushCells elemH rfl _ _ rfl W.heap.size _ 0 [] rfl (World.ownsRow_nil _ _ _ _) rfl HC.out (Hd.one l) ?_ ?_ ?_ ?_)
  · unfold maxLen; omega
  · omega
  · omega
  intro v1 w1 hown hb
  have HB1 := hid hb
  have hs1 := hb.size
  have HO1 : Hid (w1.ownsRow W.heap.size 131 2 v1 l.length (l.flatMap Hd.enc)) := hid (by simpa using hown)
  clear hown hb
  go_wp2_with (at_builtin; refine wpList_push (w0 := w1) elemH rfl _ _ rfl W.heap.size _ _ _ [.string n, .string u] rfl HO1.out rfl rfl rfl (by simp [Value.oneCell']) ?_ ?_ ?_ ?_)
  · unfold maxLen; omega
  · omega
  · omega
  intro v2 w2 hown2 hb2
  have HB2 := hid (HB1.out.trans hb2)
  have hown3 : w2.ownsRow W.heap.size 131 2 v2 m.length (m.flatMap Hd.enc) := by rw [← HM.out]; simpa [Hd.enc] using hown2
  obtain ⟨a2, cap2, rfl⟩ := owns_form hown3
  have HO := hid hown3
  clear hown2 hb2 hown3
  go_wp2_with fail
  go_ret
  exact ⟨a2, cap2, rfl, HB2.out, HO.out⟩
end C04
end Go.Proofs.Ytpamnknfccmgcaa
