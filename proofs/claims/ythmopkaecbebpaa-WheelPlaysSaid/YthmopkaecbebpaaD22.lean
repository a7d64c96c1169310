/- Walks of layer 22 (wheel): lists of numbers, and of what is due, compared; no condition. -/
import Derived.Test.YthmopkaecbebpaaC22
namespace Go.Peri
open Go.RowKit
/-- A number in its cell. -/
def ie (n : Int) : List Value := [.int .i64 n]
theorem ie_length (n : Int) : (ie n).length = 1 := rfl
theorem ie_one (l : List Int) : ∀ u ∈ l.flatMap ie, u.oneCell' = true := by
  intro u hu
  obtain ⟨o, _, ho⟩ := List.mem_flatMap.1 hu
  simp only [ie, List.mem_cons, List.not_mem_nil, or_false] at ho
  rcases ho with rfl
  rfl
theorem ie_cell {l : List Int} {w : World} {b off k : Nat} (hk : k < l.length) (h : ∀ i (hi : i < l.length) j u, (ie l[i])[j]? = some u → w.cell? ⟨b, off + i * 1 + j, none⟩ = some u) : w.cell? ⟨b, off + k, none⟩ = some (.int .i64 l[k]) := by
  have := h k hk 0 _ rfl
  simpa using this
end Go.Peri
namespace Go.Proofs.Ythmopkaecbebpaa
open Go.RowKit Go.Peri
namespace C22
theorem eqDu (a b : Du) (w : World) : (Op.equalIn 10000 130 (.agg #[.int .i64 a.id, .int .i64 a.at_]) (.agg #[.int .i64 b.id, .int .i64 b.at_])).run Try.prog w = .ok (decide (a = b)) w := by
  rw [show (10000 : Nat) = 9999 + 1 from rfl, run_equalIn_struct w 9999 130 _ _ (by kernel_rfl) (by kernel_rfl)]
  simp only [Program.fieldsOf, Try.underlying130, Op.eqFields]
  go_simp
  by_cases h : a = b
  · subst h; simp
  · rw [decide_eq_false h]
    have ext : a.id = b.id → a.at_ = b.at_ → a = b := by
      intro h1 h2
      obtain ⟨⟩ := a
      obtain ⟨⟩ := b
      simp_all
    repeat' (split <;> try rfl)
    all_goals exact absurd (ext (by assumption) (by assumption)) h

set_option maxRecDepth 100000 in
theorem same_any {p q : Nat → Prop} (u v : Value) (l m : List Du) (r : Bool) (W : World) (h : RowsOf p Du.enc 2 W u l) (hp : ∀ b, p b → b < W.heap.size) (h2 : RowsOf q Du.enc 2 W v m) (hq : ∀ b, q b → b < W.heap.size) (hl : l.length ≤ 1000000000000) (hm : m.length ≤ 1000000000000)
    (hr : decide (l = m) = r) :
    Calls Try.prog 26 #[u, v] W fun e w' => e = .returned (.bool r) ∧ Below W.heap.size W w' := by
  obtain ⟨a, cap, rfl, hlc, hcm, _, hcell⟩ := h
  obtain ⟨a2, cap2, rfl, hlc2, hcm2, _, hcell2⟩ := h2
  have HP := hid hp
  have HQ := hid hq
  have HC := hid hcell
  have HC2 := hid hcell2
  have HR := hid hr
  clear hp hq hcell hcell2 hr
  by_cases hlen : l.length = m.length
  · have HLEN := hid hlen
    have hle2 : ((l.length : Int) == (m.length : Int)) = true := by simp [hlen]
    have hle3 : ((m.length : Int) == (m.length : Int)) = true := by simp
    generalize hn : l.length = n at hlen hlc hl HLEN hle2
    have HN := hid hn
    clear hn
    subst hlen
    go_enter Try.func26, Try.ntmps26
    go_wp2_with fail
    go_loopw [5] (fun i wr => ∃ k : Nat, k ≤ m.length ∧ i = .int .i64 k ∧ Below W.heap.size W wr ∧ ∀ j (_ : j < k) (h1 : j < l.length) (h2 : j < m.length), l[j] = m[j]) (fun i _ => m.length - (intOf i).toNat)
    case atStart => exact ⟨0, Nat.zero_le _, rfl, Below.refl _ _, fun j hj => absurd hj (Nat.not_lt_zero _)⟩
    case round =>
      obtain ⟨k, hk, rfl, hb, hno⟩ := hrel
      have HB := hid hb
      have HE := hid hno
      clear hb hno
      by_cases hlt : k < m.length
      · have hlt1 : k < l.length := by rw [HN.out]; exact hlt
        obtain ⟨b, off, rfl, hpb, hc⟩ := HC.out.resolve_left (by intro e; rw [e] at hlt1; simp at hlt1)
        obtain ⟨b2, off2, rfl, hpb2, hc2⟩ := HC2.out.resolve_left (by intro e; rw [e] at hlt; simp at hlt)
        have hbl : b < wr.heap.size := Nat.lt_of_lt_of_le (HP.out b hpb) HB.out.size
        have hbl2 : b2 < wr.heap.size := Nat.lt_of_lt_of_le (HQ.out b2 hpb2) HB.out.size
        obtain ⟨c0, c1⟩ := Du.cells (fun j u hu => (HB.out.cell (p := ⟨b, off + k * 2 + j, none⟩) (HP.out b hpb)).trans (hc k hlt1 j u hu))
        obtain ⟨d0, d1⟩ := Du.cells (fun j u hu => (HB.out.cell (p := ⟨b2, off2 + k * 2 + j, none⟩) (HQ.out b2 hpb2)).trans (hc2 k hlt j u hu))
        have HNext : Hid (l[k] = m[k] → ∀ j (_ : j < k + 1) (h1 : j < l.length) (h2 : j < m.length), l[j] = m[j]) := by
          intro he j hj h1 h2
          by_cases e : j = k
          · subst e; exact he
          · exact HE.out j (by omega) h1 h2
        have HHit : Hid (l[k] ≠ m[k] → l ≠ m) := fun hh e => hh (by subst e; rfl)
        clear hc hc2
        generalize l[k] = x at c0 c1 HNext HHit
        generalize m[k] = y at d0 d1 HNext HHit
        have hee := eqDu x y
        by_cases hxy : x = y
        · have HX := hid hxy
          rw [decide_eq_true hxy] at hee
          clear hxy
          go_wp2_with fail
          refine wp_region_bw (by kernel_rfl) (by kernel_rfl) ?_
          repeat (go_big_quiet_step (fail))
          refine wpQuiet_nil ?_
          rintro w2 ⟨⟨_, hb2⟩, rfl⟩
          have HB2 : Hid (Below W.heap.size W w2) := HB.out.trans (hb2.mono HB.out.size)
          clear hb2
          go_wp2_with fail
          go_roundw
          case rel => exact ⟨k + 1, by omega, by go_num, HB2.out, HNext.out HX.out⟩
          case measure => simp [intOf]; omega
        · have HX := hid hxy
          rw [decide_eq_false hxy] at hee
          clear hxy
          go_wp2_with fail
          refine wp_region_bw (by kernel_rfl) (by kernel_rfl) ?_
          repeat (go_big_quiet_step (fail))
          refine wpQuiet_nil ?_
          rintro w2 ⟨⟨_, hb2⟩, rfl⟩
          have HB2 : Hid (Below W.heap.size W w2) := HB.out.trans (hb2.mono HB.out.size)
          clear hb2
          go_wp2_with fail
          go_ret
          exact ⟨by rw [← HR.out, decide_eq_false (HHit.out HX.out)]; rfl, HB2.out⟩
      · obtain rfl : k = m.length := by omega
        go_wp2_with fail
        go_ret
        have : l = m := List.ext_getElem HN.out (fun j h1 h2 => HE.out j h2 h1 h2)
        exact ⟨by rw [← HR.out, decide_eq_true this]; rfl, HB.out⟩
  · have HL : Hid (l ≠ m) := fun e => hlen (by rw [e])
    have hle2 : ((l.length : Int) == (m.length : Int)) = false := by rw [beq_eq_false_iff_ne]; omega
    clear hlen
    go_enter Try.func26, Try.ntmps26
    go_wp2_with fail
    go_ret
    exact ⟨by rw [← HR.out, decide_eq_false HL.out]; rfl, Below.refl _ _⟩


set_option maxRecDepth 100000 in
theorem ints_any {p q : Nat → Prop} (u v : Value) (l m : List Int) (r : Bool) (W : World) (h : RowsOf p ie 1 W u l) (hp : ∀ b, p b → b < W.heap.size) (h2 : RowsOf q ie 1 W v m) (hq : ∀ b, q b → b < W.heap.size) (hl : l.length ≤ 1000000000000) (hm : m.length ≤ 1000000000000)
    (hr : decide (l = m) = r) :
    Calls Try.prog 20 #[u, v] W fun e w' => e = .returned (.bool r) ∧ Below W.heap.size W w' := by
  obtain ⟨a, cap, rfl, hlc, hcm, _, hcell⟩ := h
  obtain ⟨a2, cap2, rfl, hlc2, hcm2, _, hcell2⟩ := h2
  have HP := hid hp
  have HQ := hid hq
  have HC := hid hcell
  have HC2 := hid hcell2
  have HR := hid hr
  clear hp hq hcell hcell2 hr
  by_cases hlen : l.length = m.length
  · have HLEN := hid hlen
    have hle2 : ((l.length : Int) == (m.length : Int)) = true := by simp [hlen]
    have hle3 : ((m.length : Int) == (m.length : Int)) = true := by simp
    generalize hn : l.length = n at hlen hlc hl HLEN hle2
    have HN := hid hn
    clear hn
    subst hlen
    go_enter Try.func20, Try.ntmps20
    go_wp2_with fail
    go_loopw [5] (fun i wr => ∃ k : Nat, k ≤ m.length ∧ i = .int .i64 k ∧ Below W.heap.size W wr ∧ ∀ j (_ : j < k) (h1 : j < l.length) (h2 : j < m.length), l[j] = m[j]) (fun i _ => m.length - (intOf i).toNat)
    case atStart => exact ⟨0, Nat.zero_le _, rfl, Below.refl _ _, fun j hj => absurd hj (Nat.not_lt_zero _)⟩
    case round =>
      obtain ⟨k, hk, rfl, hb, hno⟩ := hrel
      have HB := hid hb
      have HE := hid hno
      clear hb hno
      by_cases hlt : k < m.length
      · have hlt1 : k < l.length := by rw [HN.out]; exact hlt
        obtain ⟨b, off, rfl, hpb, hc⟩ := HC.out.resolve_left (by intro e; rw [e] at hlt1; simp at hlt1)
        obtain ⟨b2, off2, rfl, hpb2, hc2⟩ := HC2.out.resolve_left (by intro e; rw [e] at hlt; simp at hlt)
        have hbl : b < wr.heap.size := Nat.lt_of_lt_of_le (HP.out b hpb) HB.out.size
        have hbl2 : b2 < wr.heap.size := Nat.lt_of_lt_of_le (HQ.out b2 hpb2) HB.out.size
        have c0 := (HB.out.cell (p := ⟨b, off + k, none⟩) (HP.out b hpb)).trans (ie_cell hlt1 hc)
        have d0 := (HB.out.cell (p := ⟨b2, off2 + k, none⟩) (HQ.out b2 hpb2)).trans (ie_cell hlt hc2)
        have HNext : Hid (l[k] = m[k] → ∀ j (_ : j < k + 1) (h1 : j < l.length) (h2 : j < m.length), l[j] = m[j]) := by
          intro he j hj h1 h2
          by_cases e : j = k
          · subst e; exact he
          · exact HE.out j (by omega) h1 h2
        have HHit : Hid (l[k] ≠ m[k] → l ≠ m) := fun hh e => hh (by subst e; rfl)
        clear hc hc2
        generalize l[k] = x at c0 HNext HHit
        generalize m[k] = y at d0 HNext HHit
        by_cases hxy : x = y
        · have HX := hid hxy
          have hee : (x == y) = true := by simpa using hxy
          have hef : (x != y) = false := by simpa using hxy
          clear hxy
          go_wp2_with fail
          refine wp_region_bw (by kernel_rfl) (by kernel_rfl) ?_
          repeat (go_big_quiet_step (fail))
          refine wpQuiet_nil ?_
          rintro w2 ⟨⟨_, hb2⟩, rfl⟩
          have HB2 : Hid (Below W.heap.size W w2) := HB.out.trans (hb2.mono HB.out.size)
          clear hb2
          go_wp2_with fail
          go_roundw
          case rel => exact ⟨k + 1, by omega, by go_num, HB2.out, HNext.out HX.out⟩
          case measure => simp [intOf]; omega
        · have HX := hid hxy
          have hee : (x == y) = false := by simpa using hxy
          have hef : (x != y) = true := by simpa using hxy
          clear hxy
          go_wp2_with fail
          refine wp_region_bw (by kernel_rfl) (by kernel_rfl) ?_
          repeat (go_big_quiet_step (fail))
          refine wpQuiet_nil ?_
          rintro w2 ⟨⟨_, hb2⟩, rfl⟩
          have HB2 : Hid (Below W.heap.size W w2) := HB.out.trans (hb2.mono HB.out.size)
          clear hb2
          go_wp2_with fail
          go_ret
          exact ⟨by rw [← HR.out, decide_eq_false (HHit.out HX.out)]; rfl, HB2.out⟩
      · obtain rfl : k = m.length := by omega
        go_wp2_with fail
        go_ret
        have : l = m := List.ext_getElem HN.out (fun j h1 h2 => HE.out j h2 h1 h2)
        exact ⟨by rw [← HR.out, decide_eq_true this]; rfl, HB.out⟩
  · have HL : Hid (l ≠ m) := fun e => hlen (by rw [e])
    have hle2 : ((l.length : Int) == (m.length : Int)) = false := by rw [beq_eq_false_iff_ne]; omega
    clear hlen
    go_enter Try.func20, Try.ntmps20
    go_wp2_with fail
    go_ret
    exact ⟨by rw [← HR.out, decide_eq_false HL.out]; rfl, Below.refl _ _⟩
end C22
end Go.Proofs.Ythmopkaecbebpaa
