/- Walks of layer 34 (prog): operations alike, copied, few; no condition. -/
import Derived.Test.YtahakgmfkplidaaH35
namespace Go.Peri
namespace Opr
def fewB (o : Opr) : Bool := decide (o.a.size + o.b.size ≤ 400)
def few (l : List Opr) : Bool := decide (l.length ≤ 40) && l.all fewB
theorem few_len {l : List Opr} (h : few l = true) : l.length ≤ 40 := by
  unfold few at h
  rw [Bool.and_eq_true] at h
  exact of_decide_eq_true h.1
theorem few_mem {l : List Opr} (h : few l = true) : ∀ x ∈ l, x.a.size + x.b.size ≤ 400 := by
  unfold few at h
  rw [Bool.and_eq_true, List.all_eq_true] at h
  exact fun x hx => of_decide_eq_true (h.2 x hx)
end Opr
end Go.Peri
namespace Go.Proofs.Ytahakgmfkplidaa
open Go.RowKit Go.Peri
namespace C35
theorem elemO : Elem Try.prog 30 45 4 48 := Elem.mk' (z := .agg #[.int .i64 0, .string ByteArray.empty, .string ByteArray.empty, .int .i64 0]) Try.underlying30 (by kernel_rfl) rfl (by decide)
theorem eqO (a b : Opr) (w : World) : (Op.equalIn 10000 45 (.agg #[.int .i64 a.kind, .string a.a, .string a.b, .int .i64 a.n]) (.agg #[.int .i64 b.kind, .string b.a, .string b.b, .int .i64 b.n])).run Try.prog w = .ok (decide (a = b)) w := by
  rw [show (10000 : Nat) = 9999 + 1 from rfl, run_equalIn_struct w 9999 45 _ _ (by kernel_rfl) (by kernel_rfl)]
  simp only [Program.fieldsOf, Try.underlying45, Op.eqFields]
  go_simp
  have inj_a : a.a.toList = b.a.toList → a.a = b.a := fun h => Go.WideShapes.bytes_inj (by rw [← ByteArray.toList_eq, ← ByteArray.toList_eq, h])
  have inj_b : a.b.toList = b.b.toList → a.b = b.b := fun h => Go.WideShapes.bytes_inj (by rw [← ByteArray.toList_eq, ← ByteArray.toList_eq, h])
  have ext : a.kind = b.kind → a.a.toList = b.a.toList → a.b.toList = b.b.toList → a.n = b.n → a = b := by
    intro h0 h1 h2 h3
    have h1 := inj_a h1
    have h2 := inj_b h2
    obtain ⟨⟩ := a
    obtain ⟨⟩ := b
    simp_all
  by_cases h : a = b
  · subst h; simp
  · rw [decide_eq_false h]
    repeat' (split <;> try rfl)
    exact absurd (ext (by assumption) (by assumption) (by assumption) (by assumption)) h
set_option maxRecDepth 100000 in
theorem osame_any {p q : Nat → Prop} (u v : Value) (l m : List Opr) (r : Bool) (W : World) (h : RowsOf p Opr.enc 4 W u l) (hp : ∀ b, p b → b < W.heap.size) (h2 : RowsOf q Opr.enc 4 W v m) (hq : ∀ b, q b → b < W.heap.size) (hl : l.length ≤ 1000000000000) (hm : m.length ≤ 1000000000000)
    (hr : decide (l = m) = r) :
    Calls Try.prog 19 #[u, v] W fun e w' => e = .returned (.bool r) ∧ Below W.heap.size W w' := by
  obtain ⟨a, cap, rfl, hlc, hcm, _, hcell⟩ := h
  obtain ⟨a2, cap2, rfl, hlc2, hcm2, _, hcell2⟩ := h2
  have HP := hid hp
  have HQ := hid hq
  have HC := hid hcell
  have HC2 := hid hcell2
  have HR := hid hr
  clear hp hq hcell hcell2 hr
  by_cases hlen : l.length = m.length
  · have HLEN := hid hlen
    have hle2 : ((l.length : Int) == (m.length : Int)) = true := by simp [hlen]
    have hle3 : ((m.length : Int) == (m.length : Int)) = true := by simp
    generalize hn : l.length = n at hlen hlc hl HLEN hle2
    have HN := hid hn
    clear hn
    subst hlen
    go_enter Try.func19, Try.ntmps19
    go_wp2_with fail
    go_loopw [5] (fun i wr => ∃ k : Nat, k ≤ m.length ∧ i = .int .i64 k ∧ Below W.heap.size W wr ∧ ∀ j (_ : j < k) (h1 : j < l.length) (h2 : j < m.length), l[j] = m[j]) (fun i _ => m.length - (intOf i).toNat)
    case atStart => exact ⟨0, Nat.zero_le _, rfl, Below.refl _ _, fun j hj => absurd hj (Nat.not_lt_zero _)⟩
    case round =>
      obtain ⟨k, hk, rfl, hb, hno⟩ := hrel
      have HB := hid hb
      have HE := hid hno
      clear hb hno
      by_cases hlt : k < m.length
      · have hlt1 : k < l.length := by rw [HN.out]; exact hlt
        obtain ⟨b, off, rfl, hpb, hc⟩ := HC.out.resolve_left (by intro e; rw [e] at hlt1; simp at hlt1)
        obtain ⟨b2, off2, rfl, hpb2, hc2⟩ := HC2.out.resolve_left (by intro e; rw [e] at hlt; simp at hlt)
        have hbl : b < wr.heap.size := Nat.lt_of_lt_of_le (HP.out b hpb) HB.out.size
        have hbl2 : b2 < wr.heap.size := Nat.lt_of_lt_of_le (HQ.out b2 hpb2) HB.out.size
        obtain ⟨c0, c1, c2, c3⟩ := Opr.cells (fun j u hu => (HB.out.cell (p := ⟨b, off + k * 4 + j, none⟩) (HP.out b hpb)).trans (hc k hlt1 j u hu))
        obtain ⟨d0, d1, d2, d3⟩ := Opr.cells (fun j u hu => (HB.out.cell (p := ⟨b2, off2 + k * 4 + j, none⟩) (HQ.out b2 hpb2)).trans (hc2 k hlt j u hu))
        have HNext : Hid (l[k] = m[k] → ∀ j (_ : j < k + 1) (h1 : j < l.length) (h2 : j < m.length), l[j] = m[j]) := by
          intro he j hj h1 h2
          by_cases e : j = k
          · subst e; exact he
          · exact HE.out j (by omega) h1 h2
        have HHit : Hid (l[k] ≠ m[k] → l ≠ m) := fun hh e => hh (by subst e; rfl)
        clear hc hc2
        generalize l[k] = x at c0 c1 c2 c3 HNext HHit
        generalize m[k] = y at d0 d1 d2 d3 HNext HHit
        have hee := eqO x y
        by_cases hxy : x = y
        · have HX := hid hxy
          rw [decide_eq_true hxy] at hee
          clear hxy
          go_wp2_with fail
          refine wp_region_bw (by kernel_rfl) (by kernel_rfl) ?_
          repeat (go_big_quiet_step (fail))
          refine wpQuiet_nil ?_
          rintro w2 ⟨⟨_, hb2⟩, rfl⟩
          have HB2 : Hid (Below W.heap.size W w2) := HB.out.trans (hb2.mono HB.out.size)
          clear hb2
          go_wp2_with fail
          go_roundw
          case rel => exact ⟨k + 1, by omega, by go_num, HB2.out, HNext.out HX.out⟩
          case measure => simp [intOf]; omega
        · have HX := hid hxy
          rw [decide_eq_false hxy] at hee
          clear hxy
          go_wp2_with fail
          refine wp_region_bw (by kernel_rfl) (by kernel_rfl) ?_
          repeat (go_big_quiet_step (fail))
          refine wpQuiet_nil ?_
          rintro w2 ⟨⟨_, hb2⟩, rfl⟩
          have HB2 : Hid (Below W.heap.size W w2) := HB.out.trans (hb2.mono HB.out.size)
          clear hb2
          go_wp2_with fail
          go_ret
          exact ⟨by rw [← HR.out, decide_eq_false (HHit.out HX.out)]; rfl, HB2.out⟩
      · obtain rfl : k = m.length := by omega
        go_wp2_with fail
        go_ret
        have : l = m := List.ext_getElem HN.out (fun j h1 h2 => HE.out j h2 h1 h2)
        exact ⟨by rw [← HR.out, decide_eq_true this]; rfl, HB.out⟩
  · have HL : Hid (l ≠ m) := fun e => hlen (by rw [e])
    have hle2 : ((l.length : Int) == (m.length : Int)) = false := by rw [beq_eq_false_iff_ne]; omega
    clear hlen
    go_enter Try.func19, Try.ntmps19
    go_wp2_with fail
    go_ret
    exact ⟨by rw [← HR.out, decide_eq_false HL.out]; rfl, Below.refl _ _⟩
set_option maxRecDepth 100000 in
theorem oclone_any {p : Nat → Prop} (v : Value) (l : List Opr) (W : World) (h : RowsOf p Opr.enc 4 W v l) (hp : ∀ b, p b → b < W.heap.size) (hl : l.length ≤ 1000000) :
    Calls Try.prog 26 #[v] W fun e w' => ∃ a cap, e = .returned (.slice a l.length cap) ∧ Below W.heap.size W w' ∧ Hid (w'.ownsRow W.heap.size 45 4 (.slice a l.length cap) l.length (l.flatMap Opr.enc)) := by
  have qnil : ∀ (w : World) (a : Option Addr) (n c : Nat), (binOp .eql 30 (.slice a n c) (.slice none 0 0)).run Try.prog w = .ok (.bool a.isNone) w := fun w a n c => Lib.run_eql_slice_nil w 30 45 a n c 0 0 Try.underlying30
  have HV := hid h
  have HP := hid hp
  obtain ⟨a, cap, rfl, hlc, hcm, hnn, _⟩ := h
  clear hp
  cases a with
  | none =>
    have hc0 := hnn rfl
    subst hc0
    have hl0 : l.length = 0 := by omega
    have hln : l = [] := List.length_eq_zero_iff.1 hl0
    subst hln
    go_enter Try.func26, Try.ntmps26
    go_wp2_with fail
    go_ret
    exact ⟨none, 0, rfl, Below.refl _ _, World.ownsRow_nil _ _ _ _⟩
  | some ad =>
    have HC : Hid (Cellz p 4 (W.alloc (.cells #[] 45)) (.slice (some ad) l.length cap) l.length (l.flatMap Opr.enc)) := (HV.out.below (B := W.heap.size) ((Below.refl _ W).alloc (Nat.le_refl _) _) HP.out).cellz Opr.enc_length
    go_enter Try.func26, Try.ntmps26
    go_wp2_with (at_builtin; refine wpList_pushCells elemO rfl _ _ rfl W.heap.size _ 0 [] rfl (World.ownsRow_made W #[] 0 (Nat.le_refl _) (Nat.zero_le _) (by simp)) rfl HC.out (Opr.one l) ?_ ?_ ?_ ?_)
    · unfold maxLen; omega
    · omega
    · simp
    intro v1 w1 hown hb
    have HB : Hid (Below W.heap.size W w1) := ((Below.refl _ W).alloc (Nat.le_refl _) _).trans hb
    have hown2 : w1.ownsRow W.heap.size 45 4 v1 l.length (l.flatMap Opr.enc) := by simpa using hown
    have hr : RowsOf (fun b => W.heap.size ≤ b ∧ b < w1.heap.size) Opr.enc 4 w1 v1 l := RowsOf.of_owns Opr.enc_length hown2
    have HR := hid hown2
    clear hown2
    obtain ⟨a1, cap1, rfl, _⟩ := hr
    clear hown hb
    go_wp2_with fail
    go_ret
    exact ⟨a1, cap1, rfl, HB.out, HR.out⟩

set_option maxRecDepth 100000 in
theorem ofew_any {p : Nat → Prop} (v : Value) (l : List Opr) (r : Bool) (W : World) (h : RowsOf p Opr.enc 4 W v l) (hp : ∀ b, p b → b < W.heap.size) (hw : ∀ x ∈ l, Small x) (hl : l.length ≤ 1000000000000000) (hr : Opr.few l = r) :
    Calls Try.prog 20 #[v] W fun e w' => e = .returned (.bool r) ∧ Below W.heap.size W w' := by
  obtain ⟨a, cap, rfl, hlc, hcm, _, hcell⟩ := h
  have HC := hid hcell
  have HP := hid hp
  have HWF := hid hw
  have HR := hid hr
  clear hcell hp hw hr
  by_cases h60 : 40 < l.length
  · have hd : Hid (Opr.few l = false) := hid (by unfold Opr.few; rw [decide_eq_false (by omega)]; rfl)
    go_enter Try.func20, Try.ntmps20
    go_wp2_with fail
    go_ret
    exact ⟨by rw [← HR.out, hd.out]; rfl, Below.refl _ _⟩
  go_enter Try.func20, Try.ntmps20
  go_wp2_with fail
  go_loopw [3] (fun i wr => ∃ k : Nat, k ≤ l.length ∧ i = .int .i64 k ∧ Below W.heap.size W wr ∧ ∀ j (_ : j < k) (h1 : j < l.length), Opr.fewB l[j] = true) (fun i _ => l.length - (intOf i).toNat)
  case atStart => exact ⟨0, Nat.zero_le _, rfl, Below.refl _ _, fun j hj => absurd hj (Nat.not_lt_zero _)⟩
  case round =>
    obtain ⟨k, hk, rfl, hb, hno⟩ := hrel
    have HB := hid hb
    have HN := hid hno
    clear hb hno
    by_cases hlt : k < l.length
    · obtain ⟨b, off, rfl, hpb, hc⟩ := HC.out.resolve_left (by intro e; rw [e] at hlt; simp at hlt)
      have hbl := HP.out b hpb
      obtain ⟨c0, c1, c2, c3⟩ := Opr.cells (fun j u hu => (HB.out.cell (p := ⟨b, off + k * 4 + j, none⟩) hbl).trans (hc k hlt j u hu))
      have HNext : Hid (Opr.fewB l[k] = true → ∀ j (_ : j < k + 1) (h1 : j < l.length), Opr.fewB l[j] = true) := by
        intro he j hj h1
        by_cases e : j = k
        · subst e; exact he
        · exact HN.out j (by omega) h1
      have HHit : Hid (Opr.fewB l[k] = false → Opr.few l = false) := fun h1 => by
        unfold Opr.few
        rw [Bool.and_eq_false_iff]
        right
        rw [List.all_eq_false]
        exact ⟨l[k], List.getElem_mem hlt, by simpa using h1⟩
      have hwy := HWF.out l[k] (List.getElem_mem hlt)
      clear hc
      generalize l[k] = y at c0 c1 c2 c3 HNext HHit hwy
      have hy1 := hwy.1
      have hy2 := hwy.2
      have hk1 : (k : Int) < (l.length : Int) := by omega
      have HF : Hid (Opr.fewB y = decide (y.a.size + y.b.size ≤ 400)) := hid rfl
      obtain ⟨n1, hn1⟩ : ∃ n, n = y.a.size := ⟨_, rfl⟩
      obtain ⟨n2, hn2⟩ : ∃ n, n = y.b.size := ⟨_, rfl⟩
      rw [← hn1] at hy1 HF
      rw [← hn2] at hy2 HF
      by_cases hs : n1 + n2 ≤ 400
      · have HV := hid (HNext.out (by rw [HF.out]; exact decide_eq_true hs))
        have hwr : IntKind.i64.wrap ((n1 : Int) + (n2 : Int)) = (n1 : Int) + (n2 : Int) := IntWalk.i64_in _ (by omega)
        have hle : ¬ (400 : Int) < (n1 : Int) + (n2 : Int) := by omega
        rw [hn1, hn2] at hwr hle
        clear hwy HHit HNext hn1 hn2
        go_wp2_with fail
        go_quiet (fail)
        go_wp2_with fail
        go_roundw
        case rel => exact ⟨k + 1, by omega, by go_num, HB.out.trans ⟨rfl, rfl, rfl, Nat.le_refl _, fun _ _ => rfl⟩, HV.out⟩
        case measure => simp [intOf]; omega
      · have HV := hid (HHit.out (by rw [HF.out]; exact decide_eq_false hs))
        have hwr : IntKind.i64.wrap ((n1 : Int) + (n2 : Int)) = (n1 : Int) + (n2 : Int) := IntWalk.i64_in _ (by omega)
        have hle : (400 : Int) < (n1 : Int) + (n2 : Int) := by omega
        rw [hn1, hn2] at hwr hle
        clear hwy HHit HNext hn1 hn2
        go_wp2_with fail
        go_quiet (fail)
        go_wp2_with fail
        go_ret
        exact ⟨by rw [← HR.out, HV.out]; rfl, HB.out.trans ⟨rfl, rfl, rfl, Nat.le_refl _, fun _ _ => rfl⟩⟩
    · obtain rfl : k = l.length := by omega
      have hd : Hid (Opr.few l = true) := hid (by
        unfold Opr.few
        rw [decide_eq_true (by omega), Bool.true_and, List.all_eq_true]
        intro x hx
        obtain ⟨i, hi, rfl⟩ := List.getElem_of_mem hx
        exact HN.out i hi hi)
      go_wp2_with fail
      go_ret
      exact ⟨by rw [← HR.out, hd.out]; rfl, HB.out⟩
end C35
end Go.Proofs.Ytahakgmfkplidaa
