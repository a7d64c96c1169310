/- Walks of layer 24 (opens): whether two lists are alike; no condition. -/
import Derived.Test.YtefaegoajjcfjaaD24
namespace Go.Proofs.Ytefaegoajjcfjaa
open Go.RowKit Go.Peri
namespace C24

theorem toList_inj {a b : ByteArray} (h : a.toList = b.toList) : a = b := Go.WideShapes.bytes_inj (by rw [← ByteArray.toList_eq, ← ByteArray.toList_eq, h])
theorem eqOpn (x y : Opn) (w : World) : (Op.equalIn 10000 129 (.agg #[.int .i64 x.no, .int .u64 x.sp.hi, .int .u64 x.sp.lo, .int .u64 x.sp.id, .int .u64 x.sp.up, .string x.sp.name, .int .i64 x.sp.status, .int .i64 x.sp.seq, .int .i64 x.sp.kids, .bool x.sp.shadow, .int .i64 x.sp.start, .int .i64 x.sp.stop]) (.agg #[.int .i64 y.no, .int .u64 y.sp.hi, .int .u64 y.sp.lo, .int .u64 y.sp.id, .int .u64 y.sp.up, .string y.sp.name, .int .i64 y.sp.status, .int .i64 y.sp.seq, .int .i64 y.sp.kids, .bool y.sp.shadow, .int .i64 y.sp.start, .int .i64 y.sp.stop])).run Try.prog w = .ok (decide (x = y)) w := by
  rw [show (10000 : Nat) = 9999 + 1 from rfl, run_equalIn_struct w 9999 129 _ _ (by kernel_rfl) (by kernel_rfl)]
  simp only [Program.fieldsOf, Try.underlying129, Op.eqFields]
  go_simp
  have ext : x.no = y.no → x.sp.hi = y.sp.hi → x.sp.lo = y.sp.lo → x.sp.id = y.sp.id → x.sp.up = y.sp.up → x.sp.name.toList = y.sp.name.toList → x.sp.status = y.sp.status → x.sp.seq = y.sp.seq → x.sp.kids = y.sp.kids → x.sp.shadow = y.sp.shadow → x.sp.start = y.sp.start → x.sp.stop = y.sp.stop → x = y := by
    intro h0 h1 h2 h3 h4 h5 h6 h7 h8 h9 h10 h11
    have h5 := toList_inj h5
    obtain ⟨n, s⟩ := x
    obtain ⟨m, t⟩ := y
    obtain ⟨⟩ := s
    obtain ⟨⟩ := t
    simp_all
  by_cases h : x = y
  · subst h; simp
  · rw [decide_eq_false h]
    have step : ∀ (p : Prop) [Decidable p] (A : Result Bool), (p → A = .ok false w) → (if p then A else .ok false w) = .ok false w := by
      intro p _ A h
      split
      · exact h (by assumption)
      · rfl
    exact step _ _ fun h0 => step _ _ fun h1 => step _ _ fun h2 => step _ _ fun h3 => step _ _ fun h4 => step _ _ fun h5 => step _ _ fun h6 => step _ _ fun h7 => step _ _ fun h8 => step _ _ fun h9 => step _ _ fun h10 => step _ _ fun h11 =>
      absurd (ext h0 (by omega) (by omega) (by omega) (by omega) h5 h6 h7 h8 h9 h10 h11) h

set_option maxRecDepth 100000 in
theorem same_any {p q : Nat → Prop} (u v : Value) (l m : List Opn) (r : Bool) (W : World) (h : RowsOf p Opn.enc 12 W u l) (hp : ∀ b, p b → b < W.heap.size) (h2 : RowsOf q Opn.enc 12 W v m) (hq : ∀ b, q b → b < W.heap.size) (hl : l.length ≤ 9223372036854775807) (hm : m.length ≤ 9223372036854775807)
    (hr : decide (l = m) = r) :
    Calls Try.prog 64 #[u, v] W fun e w' => e = .returned (.bool r) ∧ Below W.heap.size W w' := by
  obtain ⟨a, cap, rfl, hlc, hcm, _, hcell⟩ := h
  obtain ⟨a2, cap2, rfl, hlc2, hcm2, _, hcell2⟩ := h2
  have HP := hid hp
  have HQ := hid hq
  have HC := hid hcell
  have HC2 := hid hcell2
  have HR := hid hr
  clear hp hq hcell hcell2 hr
  by_cases hlen : l.length = m.length
  · have HLEN := hid hlen
    have hle2 : ((l.length : Int) == (m.length : Int)) = true := by simp [hlen]
    have hle3 : ((m.length : Int) == (m.length : Int)) = true := by simp
    generalize hn : l.length = n at hlen hlc hl HLEN hle2
    have HN := hid hn
    clear hn
    subst hlen
    go_enter Try.func64, Try.ntmps64
    go_wp2_with fail
    go_loopw [5] (fun i wr => ∃ k : Nat, k ≤ m.length ∧ i = .int .i64 k ∧ Below W.heap.size W wr ∧ ∀ j (_ : j < k) (h1 : j < l.length) (h2 : j < m.length), l[j] = m[j]) (fun i _ => m.length - (intOf i).toNat)
    case atStart => exact ⟨0, Nat.zero_le _, rfl, Below.refl _ _, fun j hj => absurd hj (Nat.not_lt_zero _)⟩
    case round =>
      obtain ⟨k, hk, rfl, hb, hno⟩ := hrel
      have HB := hid hb
      have HE := hid hno
      clear hb hno
      by_cases hlt : k < m.length
      · have hlt1 : k < l.length := by rw [HN.out]; exact hlt
        obtain ⟨b, off, rfl, hpb, hc⟩ := HC.out.resolve_left (by intro e; rw [e] at hlt1; simp at hlt1)
        obtain ⟨b2, off2, rfl, hpb2, hc2⟩ := HC2.out.resolve_left (by intro e; rw [e] at hlt; simp at hlt)
        have hbl : b < wr.heap.size := Nat.lt_of_lt_of_le (HP.out b hpb) HB.out.size
        have hbl2 : b2 < wr.heap.size := Nat.lt_of_lt_of_le (HQ.out b2 hpb2) HB.out.size
        obtain ⟨c0, c1, c2, c3, c4, c5, c6, c7, c8, c9, c10, c11⟩ := opn_cells (fun j u hu => (HB.out.cell (p := ⟨b, off + k * 12 + j, none⟩) (HP.out b hpb)).trans (hc k hlt1 j u hu))
        obtain ⟨d0, d1, d2, d3, d4, d5, d6, d7, d8, d9, d10, d11⟩ := opn_cells (fun j u hu => (HB.out.cell (p := ⟨b2, off2 + k * 12 + j, none⟩) (HQ.out b2 hpb2)).trans (hc2 k hlt j u hu))
        have HNext : Hid (l[k] = m[k] → ∀ j (_ : j < k + 1) (h1 : j < l.length) (h2 : j < m.length), l[j] = m[j]) := by
          intro he j hj h1 h2
          by_cases e : j = k
          · subst e; exact he
          · exact HE.out j (by omega) h1 h2
        have HHit : Hid (l[k] ≠ m[k] → l ≠ m) := fun hh e => hh (by subst e; rfl)
        clear hc hc2
        generalize l[k] = x at c0 c1 c2 c3 c4 c5 c6 c7 c8 c9 c10 c11 HNext HHit
        generalize m[k] = y at d0 d1 d2 d3 d4 d5 d6 d7 d8 d9 d10 d11 HNext HHit
        have hee := eqOpn x y
        by_cases hxy : x = y
        · have HX := hid hxy
          rw [decide_eq_true hxy] at hee
          clear hxy
          go_wp2_with fail
          refine wp_region_bw (by kernel_rfl) (by kernel_rfl) ?_
          repeat (go_big_quiet_step (fail))
          refine wpQuiet_nil ?_
          rintro w2 ⟨⟨_, hb2⟩, rfl⟩
          have HB2 : Hid (Below W.heap.size W w2) := HB.out.trans (hb2.mono HB.out.size)
          clear hb2
          go_wp2_with fail
          go_roundw
          case rel => exact ⟨k + 1, by omega, by go_num, HB2.out, HNext.out HX.out⟩
          case measure => simp [intOf]; omega
        · have HX := hid hxy
          rw [decide_eq_false hxy] at hee
          clear hxy
          go_wp2_with fail
          refine wp_region_bw (by kernel_rfl) (by kernel_rfl) ?_
          repeat (go_big_quiet_step (fail))
          refine wpQuiet_nil ?_
          rintro w2 ⟨⟨_, hb2⟩, rfl⟩
          have HB2 : Hid (Below W.heap.size W w2) := HB.out.trans (hb2.mono HB.out.size)
          clear hb2
          go_wp2_with fail
          go_ret
          exact ⟨by rw [← HR.out, decide_eq_false (HHit.out HX.out)]; rfl, HB2.out⟩
      · obtain rfl : k = m.length := by omega
        go_wp2_with fail
        go_ret
        have : l = m := List.ext_getElem HN.out (fun j h1 h2 => HE.out j h2 h1 h2)
        exact ⟨by rw [← HR.out, decide_eq_true this]; rfl, HB.out⟩
  · have HL : Hid (l ≠ m) := fun e => hlen (by rw [e])
    have hle2 : ((l.length : Int) == (m.length : Int)) = false := by rw [beq_eq_false_iff_ne]; omega
    clear hlen
    go_enter Try.func64, Try.ntmps64
    go_wp2_with fail
    go_ret
    exact ⟨by rw [← HR.out, decide_eq_false HL.out]; rfl, Below.refl _ _⟩
end C24
end Go.Proofs.Ytefaegoajjcfjaa
