/- Walks of layer 4 (head): lists of headers: whether they may be, where one stands, its values, one more, alike; no condition. -/
import Derived.Test.YtpamnknfccmgcaaC04
import Derived.Test.YtpamnknfccmgcaaP04b
import Derived.Deep.QuietTactic
import Derived.BigQuiet
namespace Go.Proofs.Ytpamnknfccmgcaa
open Go.RowKit Go.Peri
namespace C04
theorem elemH : Elem Try.prog 22 131 2 32 := Elem.mk' (z := .agg #[.string ByteArray.empty, .string ByteArray.empty]) Try.underlying22 (by kernel_rfl) rfl (by decide)
theorem elemS : Elem Try.prog 29 9 1 16 := Elem.mk' (z := .string ByteArray.empty) Try.underlying29 (by kernel_rfl) rfl (by decide)

set_option maxRecDepth 100000 in
theorem check_any {p : Nat → Prop} (v : Value) (l : List Hd) (W : World) (h : RowsOf p Hd.enc 2 W v l) (hp : ∀ b, p b → b < W.heap.size) (hw : ∀ x ∈ l, x.Wf) (hl : l.length ≤ 1000000000000) :
    Calls Try.prog 33 #[v] W fun e w' => e = .returned (.int .i64 (Hd.checkR l)) ∧ Below W.heap.size W w' := by
  obtain ⟨a, cap, rfl, hlc, hcm, _, hcell⟩ := h
  have HC := hid hcell
  have HP := hid hp
  have HWF := hid hw
  clear hcell hp hw
  by_cases h16 : 16 < l.length
  · have hr : Hid (Hd.checkR l = 8) := hid (if_pos h16)
    go_enter Try.func33, Try.ntmps33
    go_wp2_with fail
    go_ret
    exact ⟨by rw [hr.out]; rfl, Below.refl _ _⟩
  have hr : Hid (Hd.checkR l = Hd.checkL l) := hid (if_neg h16)
  go_enter Try.func33, Try.ntmps33
  go_wp2_with fail
  go_loopw [10] (fun i wr => ∃ k : Nat, k ≤ l.length ∧ i = .int .i64 k ∧ Below W.heap.size W wr ∧ ∀ j (_ : j < k) (hj : j < l.length), Hd.nameOk l[j].name = true ∧ Hd.valueOk l[j].value = true) (fun i _ => l.length - (intOf i).toNat)
  case atStart => exact ⟨0, Nat.zero_le _, rfl, Below.refl _ _, fun j hj => absurd hj (Nat.not_lt_zero _)⟩
  case round =>
    obtain ⟨k, hk, rfl, hb, hno⟩ := hrel
    have HB := hid hb
    have HN := hid hno
    clear hb hno
    by_cases hlt : k < l.length
    · obtain ⟨b, off, rfl, hpb, hc⟩ := HC.out.resolve_left (by intro e; rw [e] at hlt; simp at hlt)
      have hbl := HP.out b hpb
      obtain ⟨c0, c1⟩ := Hd.cells (fun j u hu => (HB.out.cell (p := ⟨b, off + k * 2 + j, none⟩) hbl).trans (hc k hlt j u hu))
      have HNext : Hid (Hd.nameOk l[k].name = true → Hd.valueOk l[k].value = true → ∀ j (_ : j < k + 1) (hj : j < l.length), Hd.nameOk l[j].name = true ∧ Hd.valueOk l[j].value = true) := by
        intro h1 h2 j hj hjl
        by_cases e : j = k
        · subst e; exact ⟨h1, h2⟩
        · exact HN.out j (by omega) hjl
      have HName : Hid (Hd.nameOk l[k].name = false → Hd.checkR l = 7) := fun h1 => by rw [hr.out]; exact Hd.checkL_name l k hlt HN.out h1
      have HVal : Hid (Hd.nameOk l[k].name = true → Hd.valueOk l[k].value = false → Hd.checkR l = 15) := fun h1 h2 => by rw [hr.out]; exact Hd.checkL_value l k hlt HN.out h1 h2
      have hwy := HWF.out l[k] (List.getElem_mem hlt)
      clear hc
      generalize l[k] = y at c0 c1 HNext HName HVal hwy
      have hws := HB.out.size
      have HNA := hid (fun w => name_any y.name w (by have := hwy.name; omega))
      have HVA := hid (fun w => value_any y.value w (by have := hwy.value; omega))
      obtain ⟨bn, hn⟩ : ∃ q, Hd.nameOk y.name = q := ⟨_, rfl⟩
      obtain ⟨bv, hv⟩ : ∃ q, Hd.valueOk y.value = q := ⟨_, rfl⟩
      rw [hn] at HNA HNext HName HVal
      rw [hv] at HVA HNext HVal
      clear hn hv hwy
      cases bn
      · go_wp2_with fail
        refine (HNA.out _).mono ?_
        rintro e w' ⟨rfl, rfl⟩
        go_wp2_with fail
        go_ret
        exact ⟨by rw [HName.out (by simp)]; rfl, HB.out.alloc hws _⟩
      · go_wp2_with fail
        refine (HNA.out _).mono ?_
        rintro e w' ⟨rfl, rfl⟩
        go_wp2_with fail
        refine (HVA.out _).mono ?_
        rintro e w' ⟨rfl, rfl⟩
        cases bv
        · go_wp2_with fail
          go_ret
          exact ⟨by rw [HVal.out (by simp) (by simp)]; rfl, HB.out.alloc hws _⟩
        · go_wp2_with fail
          go_roundw
          case rel => exact ⟨k + 1, by omega, by go_num, HB.out.alloc hws _, HNext.out (by simp) (by simp)⟩
          case measure => simp [intOf]; omega
    · obtain rfl : k = l.length := by omega
      have hd : Hid (Hd.checkR l = 0) := hid (by rw [hr.out]; exact Hd.checkL_ok l HN.out)
      go_wp2_with fail
      go_ret
      exact ⟨by rw [hd.out]; rfl, HB.out⟩

set_option maxRecDepth 100000 in
theorem rcheck_any {p : Nat → Prop} (v : Value) (l : List Hd) (W : World) (h : RowsOf p Hd.enc 2 W v l) (hw : ∀ x ∈ l, x.Wf) (hl : l.length ≤ 1000000000000) :
    Calls Try.prog 34 #[v] W fun e w' => e = .returned (.int .i64 (Hd.checkR l)) ∧ W = w' := by
  obtain ⟨a, cap, rfl, hlc, hcm, _, hcell⟩ := h
  have HC := hid hcell
  have HWF := hid hw
  clear hcell hw
  by_cases h16 : 16 < l.length
  · have hr : Hid (Hd.checkR l = 8) := hid (if_pos h16)
    go_enter Try.func34, Try.ntmps34
    go_wp2_with fail
    go_ret
    exact ⟨by rw [hr.out]; rfl, rfl⟩
  have hr : Hid (Hd.checkR l = Hd.checkL l) := hid (if_neg h16)
  go_enter Try.func34, Try.ntmps34
  go_wp2_with fail
  go_loopw [3] (fun i wr => W = wr ∧ ∃ k : Nat, k ≤ l.length ∧ i = .int .i64 k ∧ ∀ j (_ : j < k) (hj : j < l.length), Hd.nameOk l[j].name = true ∧ Hd.valueOk l[j].value = true) (fun i _ => l.length - (intOf i).toNat)
  case atStart => exact ⟨rfl, 0, Nat.zero_le _, rfl, fun j hj => absurd hj (Nat.not_lt_zero _)⟩
  case round =>
    obtain ⟨rfl, k, hk, rfl, hno⟩ := hrel
    have HN := hid hno
    clear hno
    by_cases hlt : k < l.length
    · obtain ⟨b, off, rfl, hpb, hc⟩ := HC.out.resolve_left (by intro e; rw [e] at hlt; simp at hlt)
      obtain ⟨c0, c1⟩ := Hd.cells (fun j u hu => hc k hlt j u hu)
      have HNext : Hid (Hd.nameOk l[k].name = true → Hd.valueOk l[k].value = true → ∀ j (_ : j < k + 1) (hj : j < l.length), Hd.nameOk l[j].name = true ∧ Hd.valueOk l[j].value = true) := by
        intro h1 h2 j hj hjl
        by_cases e : j = k
        · subst e; exact ⟨h1, h2⟩
        · exact HN.out j (by omega) hjl
      have HName : Hid (Hd.nameOk l[k].name = false → Hd.checkR l = 7) := fun h1 => by rw [hr.out]; exact Hd.checkL_name l k hlt HN.out h1
      have HVal : Hid (Hd.nameOk l[k].name = true → Hd.valueOk l[k].value = false → Hd.checkR l = 15) := fun h1 h2 => by rw [hr.out]; exact Hd.checkL_value l k hlt HN.out h1 h2
      have hwy := HWF.out l[k] (List.getElem_mem hlt)
      clear hc
      generalize l[k] = y at c0 c1 HNext HName HVal hwy
      have HNA := hid (fun w => rname_any y.name w (by have := hwy.name; omega))
      have HVA := hid (fun w => rvalue_any y.value w (by have := hwy.value; omega))
      obtain ⟨bn, hn⟩ : ∃ q, Hd.nameOk y.name = q := ⟨_, rfl⟩
      obtain ⟨bv, hv⟩ : ∃ q, Hd.valueOk y.value = q := ⟨_, rfl⟩
      rw [hn] at HNA HNext HName HVal
      rw [hv] at HVA HNext HVal
      clear hn hv hwy
      cases bn
      · go_wp2_with fail
        refine (HNA.out _).mono ?_
        rintro e w' ⟨rfl, rfl⟩
        go_wp2_with fail
        go_ret
        exact ⟨by rw [HName.out (by simp)]; rfl, rfl⟩
      · go_wp2_with fail
        refine (HNA.out _).mono ?_
        rintro e w' ⟨rfl, rfl⟩
        go_wp2_with fail
        refine (HVA.out _).mono ?_
        rintro e w' ⟨rfl, rfl⟩
        cases bv
        · go_wp2_with fail
          go_ret
          exact ⟨by rw [HVal.out (by simp) (by simp)]; rfl, rfl⟩
        · go_wp2_with fail
          go_roundw
          case rel => exact ⟨by first | rfl | trivial, k + 1, by omega, by go_num, HNext.out (by simp) (by simp)⟩
          case measure => simp [intOf]; omega
    · obtain rfl : k = l.length := by omega
      have hd : Hid (Hd.checkR l = 0) := hid (by rw [hr.out]; exact Hd.checkL_ok l HN.out)
      go_wp2_with fail
      go_ret
      exact ⟨by rw [hd.out]; rfl, rfl⟩

set_option maxRecDepth 100000 in
theorem lit_where (o : Hd) (n : ByteArray) (q : Bool) (B : Nat) (w : World) (hB : B < w.heap.size) (hc : w.cell? ⟨B, 0, none⟩ = some (.string n)) (hq : decide (o.name = n) = q) :
    Calls Try.prog 187 #[.agg #[.string o.name, .string o.value], .pointer (some ⟨B, 0, none⟩)] w fun e w' => e = .returned (.bool q) ∧ Below w.heap.size w w' := by
  have hne : B ≠ w.heap.size := by omega
  obtain ⟨s1, s2⟩ := strEq_of hq
  clear hq
  go_enter Try.func187, Try.ntmps187
  go_wp2_with fail
  go_ret
  exact ⟨rfl, by go_grown⟩

set_option maxRecDepth 100000 in
theorem index_any {p : Nat → Prop} (v : Value) (l : List Hd) (n : ByteArray) (B : Nat) (W : World) (h : RowsOf p Hd.enc 2 W v l) (hp : ∀ b, p b → b < W.heap.size) (hl : l.length ≤ 1000000000000) (hB : B < W.heap.size) (hc : W.cell? ⟨B, 0, none⟩ = some (.string n)) :
    Calls Try.prog 186 #[v, .func (.func 187) #[] #[.pointer (some ⟨B, 0, none⟩)]] W fun e w' => e = .returned (.int .i64 (Hd.atR l n)) ∧ Below W.heap.size W w' := by
  obtain ⟨a, cap, rfl, hlc, hcm, _, hcell⟩ := h
  have HC := hid hcell
  have HP := hid hp
  have HCB := hid hc
  clear hcell hp hc
  go_enter Try.func186, Try.ntmps186
  go_wp2_with fail
  go_loopw [8] (fun i wr => ∃ k : Nat, k ≤ l.length ∧ i = .int .i64 k ∧ Below W.heap.size W wr ∧ ∀ j (_ : j < k) (hj : j < l.length), l[j].name ≠ n) (fun i _ => l.length - (intOf i).toNat)
  case atStart => exact ⟨0, Nat.zero_le _, rfl, Below.refl _ _, fun j hj => absurd hj (Nat.not_lt_zero _)⟩
  case round =>
    obtain ⟨k, hk, rfl, hb, hno⟩ := hrel
    have HB := hid hb
    have HN := hid hno
    clear hb hno
    by_cases hlt : k < l.length
    · obtain ⟨b, off, rfl, hpb, hc⟩ := HC.out.resolve_left (by intro e; rw [e] at hlt; simp at hlt)
      have hbl := HP.out b hpb
      obtain ⟨c0, c1⟩ := Hd.cells (fun j u hu => (HB.out.cell (p := ⟨b, off + k * 2 + j, none⟩) hbl).trans (hc k hlt j u hu))
      obtain ⟨bq, hq⟩ : ∃ bq, decide (l[k].name = n) = bq := ⟨_, rfl⟩
      have HLit := hid (lit_where l[k] n bq B wr (Nat.lt_of_lt_of_le hB HB.out.size) ((HB.out.cell (p := ⟨B, 0, none⟩) hB).trans HCB.out) hq)
      have HNext : Hid (bq = false → ∀ j (_ : j < k + 1) (hj : j < l.length), l[j].name ≠ n) := by
        intro e j hj hjl
        by_cases e2 : j = k
        · subst e2; rw [e] at hq; exact of_decide_eq_false hq
        · exact HN.out j (by omega) hjl
      have HHit : Hid (bq = true → Hd.atR l n = k) := fun e => by
        rw [e] at hq
        have := Hd.ix_hit hlt (of_decide_eq_true hq) HN.out
        unfold Hd.atR
        rw [this, if_pos hlt]
      clear hc hq
      generalize l[k] = y at c0 c1 HLit
      cases bq
      · go_wp2_with fail
        refine HLit.out.mono ?_
        rintro e w1 ⟨rfl, hb1⟩
        have HB1 := hid (HB.out.trans (hb1.mono HB.out.size))
        clear hb1
        go_wp2_with fail
        go_roundw
        case rel => exact ⟨k + 1, by omega, by go_num, HB1.out, HNext.out (by simp)⟩
        case measure => simp [intOf]; omega
      · go_wp2_with fail
        refine HLit.out.mono ?_
        rintro e w1 ⟨rfl, hb1⟩
        have HB1 := hid (HB.out.trans (hb1.mono HB.out.size))
        clear hb1
        go_wp2_with fail
        go_ret
        exact ⟨by rw [HHit.out (by simp)]; rfl, HB1.out⟩
    · obtain rfl : k = l.length := by omega
      have hd : Hid (Hd.atR l n = -1) := hid (Hd.atR_out (Hd.ix_none HN.out))
      go_wp2_with fail
      go_ret
      exact ⟨by rw [hd.out]; rfl, HB.out⟩

set_option maxRecDepth 100000 in
theorem where_any {p : Nat → Prop} (v : Value) (l : List Hd) (n : ByteArray) (r : Int) (W : World) (h : RowsOf p Hd.enc 2 W v l) (hp : ∀ b, p b → b < W.heap.size) (hl : l.length ≤ 1000000000000) (hr : Hd.atR l n = r) :
    Calls Try.prog 120 #[v, .string n] W fun e w' => e = .returned (.int .i64 r) ∧ Below W.heap.size W w' := by
  have HI := hid (index_any (p := p) v l n W.heap.size (W.alloc (.cells #[.string n] 9)) (h.below (B := W.heap.size) ((Below.refl _ W).alloc (Nat.le_refl _) _) hp) (fun b hb => by have := hp b hb; simp; omega) hl (by simp) (by simp [go_sem]))
  have HR := hid hr
  clear h hp hr
  go_enter Try.func120, Try.ntmps120
  go_wp2_with fail
  refine HI.out.mono ?_
  rintro e w1 ⟨rfl, hb1⟩
  have HB1 := hid hb1
  clear hb1
  go_wp2_with fail
  go_ret
  exact ⟨by rw [HR.out]; rfl, ((Below.refl _ W).alloc (Nat.le_refl _) _).trans (HB1.out.mono (by simp))⟩

set_option maxRecDepth 100000 in
theorem get_any {p : Nat → Prop} (v : Value) (l : List Hd) (n : ByteArray) (r : ByteArray × Bool) (W : World) (h : RowsOf p Hd.enc 2 W v l) (hp : ∀ b, p b → b < W.heap.size) (hl : l.length ≤ 1000000000000) (hr : Hd.getR l n = r) :
    Calls Try.prog 35 #[v, .string n] W fun e w' => e = .returned (.tuple #[.string r.1, .bool r.2]) ∧ Below W.heap.size W w' := by
  by_cases hx : Hd.ix l n < l.length
  · have HAT := hid (where_any v l n _ W h hp hl (Hd.atR_in hx))
    have hg := Hd.getR_in l n hx
    obtain ⟨a, cap, rfl, hlc, hcm, _, hcell⟩ := h
    obtain ⟨b, off, rfl, hpb, hc⟩ := hcell.resolve_left (by intro e; rw [e] at hx; simp at hx)
    have hbl := hp b hpb
    obtain ⟨c0, c1⟩ := Hd.cells (fun j u hu => hc (Hd.ix l n) hx j u hu)
    rw [hr] at hg
    generalize l[Hd.ix l n] = y at c0 c1 hg
    subst hg
    obtain ⟨k, hk⟩ : ∃ k, k = Hd.ix l n := ⟨_, rfl⟩
    rw [← hk] at HAT hx c0 c1
    have C1 := hid c1
    clear hc hcell hp hk hr c0 c1
    go_enter Try.func35, Try.ntmps35
    go_wp2_with fail
    refine HAT.out.mono ?_
    rintro e w1 ⟨rfl, hb1⟩
    have d1 := (hb1.cell (p := ⟨b, off + k * 2 + 1, none⟩) hbl).trans C1.out
    have HB1 := hid hb1
    clear hb1
    go_wp2_with fail
    go_ret2
    exact ⟨rfl, HB1.out⟩
  · have HAT := hid (where_any v l n _ W h hp hl (Hd.atR_out hx))
    have hg := Hd.getR_out l n hx
    rw [hr] at hg
    subst hg
    clear h hp hr hx
    go_enter Try.func35, Try.ntmps35
    go_wp2_with fail
    refine HAT.out.mono ?_
    rintro e w1 ⟨rfl, hb1⟩
    have HB1 := hid hb1
    clear hb1
    go_wp2_with fail
    go_ret2
    exact ⟨rfl, HB1.out⟩
end C04
end Go.Proofs.Ytpamnknfccmgcaa
