/- Walks of layer 30 (store): lists of spans compared, cloned; no condition. -/
import Derived.Test.YtdamnbldimompaaProg
import Derived.Test.YtdamnbldimompaaSp
import Derived.Test.YtdamnbldimompaaCl
import Derived.StillTailTactics
import Derived.Laws.LoneSync
import Derived.Deep.RegionLaw
import Derived.Laws.IdiomCopy
import Derived.Lib.MinMax
namespace Go.Peri
open Go.RowKit
namespace Sp
theorem cells {y : Sp} {w : World} {b o : Nat} (h : ∀ j u, y.enc[j]? = some u → w.cell? ⟨b, o + j, none⟩ = some u) :
    w.cell? ⟨b, o, none⟩ = some (.int .u64 y.hi) ∧ w.cell? ⟨b, o + 1, none⟩ = some (.int .u64 y.lo) ∧ w.cell? ⟨b, o + 2, none⟩ = some (.int .u64 y.id) ∧ w.cell? ⟨b, o + 3, none⟩ = some (.int .u64 y.up) ∧ w.cell? ⟨b, o + 4, none⟩ = some (.string y.name) ∧ w.cell? ⟨b, o + 5, none⟩ = some (.int .i64 y.status) ∧ w.cell? ⟨b, o + 6, none⟩ = some (.int .i64 y.seq) ∧ w.cell? ⟨b, o + 7, none⟩ = some (.int .i64 y.kids) ∧ w.cell? ⟨b, o + 8, none⟩ = some (.bool y.shadow) ∧ w.cell? ⟨b, o + 9, none⟩ = some (.int .i64 y.start) ∧ w.cell? ⟨b, o + 10, none⟩ = some (.int .i64 y.stop) :=
  ⟨h 0 _ rfl, h 1 _ rfl, h 2 _ rfl, h 3 _ rfl, h 4 _ rfl, h 5 _ rfl, h 6 _ rfl, h 7 _ rfl, h 8 _ rfl, h 9 _ rfl, h 10 _ rfl⟩
theorem one (l : List Sp) : ∀ u ∈ l.flatMap Sp.enc, u.oneCell' = true := by
  intro u hu
  obtain ⟨o, _, ho⟩ := List.mem_flatMap.1 hu
  simp only [Sp.enc, List.mem_cons, List.not_mem_nil, or_false] at ho
  rcases ho with rfl | rfl | rfl | rfl | rfl | rfl | rfl | rfl | rfl | rfl | rfl <;> rfl
instance : Inhabited Sp := ⟨⟨0, 0, 0, 0, ByteArray.empty, 0, 0, 0, false, 0, 0⟩⟩
end Sp
end Go.Peri
namespace Go.Proofs.Ytdamnbldimompaa
open Go.RowKit Go.Peri
namespace C30
theorem addr_add (b o j : Nat) : (⟨b, o, none⟩ : Addr).add j = ⟨b, o + j, none⟩ := by
  unfold Addr.add; split
  · rename_i hz; rw [hz]; rfl
  · rfl
theorem elemS : Elem Try.prog 32 27 11 96 := Elem.mk' (z := .agg #[.int .u64 0, .int .u64 0, .int .u64 0, .int .u64 0, .string ByteArray.empty, .int .i64 0, .int .i64 0, .int .i64 0, .bool false, .int .i64 0, .int .i64 0]) Try.underlying32 (by kernel_rfl) rfl (by decide)
theorem eqSp (a b : Sp) (w : World) : (Op.equalIn 10000 27 (.agg #[.int .u64 a.hi, .int .u64 a.lo, .int .u64 a.id, .int .u64 a.up, .string a.name, .int .i64 a.status, .int .i64 a.seq, .int .i64 a.kids, .bool a.shadow, .int .i64 a.start, .int .i64 a.stop]) (.agg #[.int .u64 b.hi, .int .u64 b.lo, .int .u64 b.id, .int .u64 b.up, .string b.name, .int .i64 b.status, .int .i64 b.seq, .int .i64 b.kids, .bool b.shadow, .int .i64 b.start, .int .i64 b.stop])).run Try.prog w = .ok (decide (a = b)) w := by
  rw [show (10000 : Nat) = 9999 + 1 from rfl, run_equalIn_struct w 9999 27 _ _ (by kernel_rfl) (by kernel_rfl)]
  simp only [Program.fieldsOf, Try.underlying27, Op.eqFields]
  go_simp
  have inj_name : a.name.toList = b.name.toList → a.name = b.name := fun h => Go.WideShapes.bytes_inj (by rw [← ByteArray.toList_eq, ← ByteArray.toList_eq, h])
  have ext : a.hi = b.hi → a.lo = b.lo → a.id = b.id → a.up = b.up → a.name.toList = b.name.toList → a.status = b.status → a.seq = b.seq → a.kids = b.kids → a.shadow = b.shadow → a.start = b.start → a.stop = b.stop → a = b := by
    intro h0 h1 h2 h3 h4 h5 h6 h7 h8 h9 h10
    have h4 := inj_name h4
    obtain ⟨⟩ := a
    obtain ⟨⟩ := b
    simp_all
  by_cases h : a = b
  · subst h; simp
  · rw [decide_eq_false h]
    repeat' (split <;> try rfl)
    exact absurd (ext (by omega) (by omega) (by omega) (by omega) (by assumption) (by assumption) (by assumption) (by assumption) (by assumption) (by assumption) (by assumption)) h
set_option maxRecDepth 100000 in
theorem ssame_any {p q : Nat → Prop} (u v : Value) (l m : List Sp) (r : Bool) (W : World) (h : RowsOf p Sp.enc 11 W u l) (hp : ∀ b, p b → b < W.heap.size) (h2 : RowsOf q Sp.enc 11 W v m) (hq : ∀ b, q b → b < W.heap.size) (hl : l.length ≤ 1000000000000) (hm : m.length ≤ 1000000000000)
    (hr : decide (l = m) = r) :
    Calls Try.prog 29 #[u, v] W fun e w' => e = .returned (.bool r) ∧ Below W.heap.size W w' := by
  obtain ⟨a, cap, rfl, hlc, hcm, _, hcell⟩ := h
  obtain ⟨a2, cap2, rfl, hlc2, hcm2, _, hcell2⟩ := h2
  have HP := hid hp
  have HQ := hid hq
  have HC := hid hcell
  have HC2 := hid hcell2
  have HR := hid hr
  clear hp hq hcell hcell2 hr
  by_cases hlen : l.length = m.length
  · have HLEN := hid hlen
    have hle2 : ((l.length : Int) == (m.length : Int)) = true := by simp [hlen]
    have hle3 : ((m.length : Int) == (m.length : Int)) = true := by simp
    generalize hn : l.length = n at hlen hlc hl HLEN hle2
    have HN := hid hn
    clear hn
    subst hlen
    go_enter Try.func29, Try.ntmps29
    go_wp2_with fail
    go_loopw [5] (fun i wr => ∃ k : Nat, k ≤ m.length ∧ i = .int .i64 k ∧ Below W.heap.size W wr ∧ ∀ j (_ : j < k) (h1 : j < l.length) (h2 : j < m.length), l[j] = m[j]) (fun i _ => m.length - (intOf i).toNat)
    case atStart => exact ⟨0, Nat.zero_le _, rfl, Below.refl _ _, fun j hj => absurd hj (Nat.not_lt_zero _)⟩
    case round =>
      obtain ⟨k, hk, rfl, hb, hno⟩ := hrel
      have HB := hid hb
      have HE := hid hno
      clear hb hno
      by_cases hlt : k < m.length
      · have hlt1 : k < l.length := by rw [HN.out]; exact hlt
        obtain ⟨b, off, rfl, hpb, hc⟩ := HC.out.resolve_left (by intro e; rw [e] at hlt1; simp at hlt1)
        obtain ⟨b2, off2, rfl, hpb2, hc2⟩ := HC2.out.resolve_left (by intro e; rw [e] at hlt; simp at hlt)
        have hbl : b < wr.heap.size := Nat.lt_of_lt_of_le (HP.out b hpb) HB.out.size
        have hbl2 : b2 < wr.heap.size := Nat.lt_of_lt_of_le (HQ.out b2 hpb2) HB.out.size
        obtain ⟨c0, c1, c2, c3, c4, c5, c6, c7, c8, c9, c10⟩ := Sp.cells (fun j u hu => (HB.out.cell (p := ⟨b, off + k * 11 + j, none⟩) (HP.out b hpb)).trans (hc k hlt1 j u hu))
        obtain ⟨d0, d1, d2, d3, d4, d5, d6, d7, d8, d9, d10⟩ := Sp.cells (fun j u hu => (HB.out.cell (p := ⟨b2, off2 + k * 11 + j, none⟩) (HQ.out b2 hpb2)).trans (hc2 k hlt j u hu))
        have HNext : Hid (l[k] = m[k] → ∀ j (_ : j < k + 1) (h1 : j < l.length) (h2 : j < m.length), l[j] = m[j]) := by
          intro he j hj h1 h2
          by_cases e : j = k
          · subst e; exact he
          · exact HE.out j (by omega) h1 h2
        have HHit : Hid (l[k] ≠ m[k] → l ≠ m) := fun hh e => hh (by subst e; rfl)
        clear hc hc2
        generalize l[k] = x at c0 c1 c2 c3 c4 c5 c6 c7 c8 c9 c10 HNext HHit
        generalize m[k] = y at d0 d1 d2 d3 d4 d5 d6 d7 d8 d9 d10 HNext HHit
        have hee := eqSp x y
        by_cases hxy : x = y
        · have HX := hid hxy
          rw [decide_eq_true hxy] at hee
          clear hxy
          go_wp2_with fail
          refine wp_region_bw (by kernel_rfl) (by kernel_rfl) ?_
          repeat (go_big_quiet_step (fail))
          refine wpQuiet_nil ?_
          rintro w2 ⟨⟨_, hb2⟩, rfl⟩
          have HB2 : Hid (Below W.heap.size W w2) := HB.out.trans (hb2.mono HB.out.size)
          clear hb2
          go_wp2_with fail
          go_roundw
          case rel => exact ⟨k + 1, by omega, by go_num, HB2.out, HNext.out HX.out⟩
          case measure => simp [intOf]; omega
        · have HX := hid hxy
          rw [decide_eq_false hxy] at hee
          clear hxy
          go_wp2_with fail
          refine wp_region_bw (by kernel_rfl) (by kernel_rfl) ?_
          repeat (go_big_quiet_step (fail))
          refine wpQuiet_nil ?_
          rintro w2 ⟨⟨_, hb2⟩, rfl⟩
          have HB2 : Hid (Below W.heap.size W w2) := HB.out.trans (hb2.mono HB.out.size)
          clear hb2
          go_wp2_with fail
          go_ret
          exact ⟨by rw [← HR.out, decide_eq_false (HHit.out HX.out)]; rfl, HB2.out⟩
      · obtain rfl : k = m.length := by omega
        go_wp2_with fail
        go_ret
        have : l = m := List.ext_getElem HN.out (fun j h1 h2 => HE.out j h2 h1 h2)
        exact ⟨by rw [← HR.out, decide_eq_true this]; rfl, HB.out⟩
  · have HL : Hid (l ≠ m) := fun e => hlen (by rw [e])
    have hle2 : ((l.length : Int) == (m.length : Int)) = false := by rw [beq_eq_false_iff_ne]; omega
    clear hlen
    go_enter Try.func29, Try.ntmps29
    go_wp2_with fail
    go_ret
    exact ⟨by rw [← HR.out, decide_eq_false HL.out]; rfl, Below.refl _ _⟩
set_option maxRecDepth 100000 in
theorem sclone_any {p : Nat → Prop} (v : Value) (l : List Sp) (W : World) (h : RowsOf p Sp.enc 11 W v l) (hp : ∀ b, p b → b < W.heap.size) (hl : l.length ≤ 1000000) :
    Calls Try.prog 42 #[v] W fun e w' => ∃ a cap, e = .returned (.slice a l.length cap) ∧ Below W.heap.size W w' ∧ Hid (w'.ownsRow W.heap.size 27 11 (.slice a l.length cap) l.length (l.flatMap Sp.enc)) := by
  have qnil : ∀ (w : World) (a : Option Addr) (n c : Nat), (binOp .eql 32 (.slice a n c) (.slice none 0 0)).run Try.prog w = .ok (.bool a.isNone) w := fun w a n c => Lib.run_eql_slice_nil w 32 27 a n c 0 0 Try.underlying32
  have HV := hid h
  have HP := hid hp
  obtain ⟨a, cap, rfl, hlc, hcm, hnn, _⟩ := h
  clear hp
  cases a with
  | none =>
    have hc0 := hnn rfl
    subst hc0
    have hl0 : l.length = 0 := by omega
    have hln : l = [] := List.length_eq_zero_iff.1 hl0
    subst hln
    go_enter Try.func42, Try.ntmps42
    go_wp2_with fail
    go_ret
    exact ⟨none, 0, rfl, Below.refl _ _, World.ownsRow_nil _ _ _ _⟩
  | some ad =>
    have HC : Hid (Cellz p 11 (W.alloc (.cells #[] 27)) (.slice (some ad) l.length cap) l.length (l.flatMap Sp.enc)) := (HV.out.below (B := W.heap.size) ((Below.refl _ W).alloc (Nat.le_refl _) _) HP.out).cellz Sp.enc_length
    go_enter Try.func42, Try.ntmps42
    go_wp2_with (at_builtin; refine wpList_pushCells elemS rfl _ _ rfl W.heap.size _ 0 [] rfl (World.ownsRow_made W #[] 0 (Nat.le_refl _) (Nat.zero_le _) (by simp)) rfl HC.out (Sp.one l) ?_ ?_ ?_ ?_)
    · unfold maxLen; omega
    · omega
    · simp
    intro v1 w1 hown hb
    have HB : Hid (Below W.heap.size W w1) := ((Below.refl _ W).alloc (Nat.le_refl _) _).trans hb
    have hown2 : w1.ownsRow W.heap.size 27 11 v1 l.length (l.flatMap Sp.enc) := by simpa using hown
    have hr : RowsOf (fun b => W.heap.size ≤ b ∧ b < w1.heap.size) Sp.enc 11 w1 v1 l := RowsOf.of_owns Sp.enc_length hown2
    have HR := hid hown2
    clear hown2
    obtain ⟨a1, cap1, rfl, _⟩ := hr
    clear hown hb
    go_wp2_with fail
    go_ret
    exact ⟨a1, cap1, rfl, HB.out, HR.out⟩
end C30
end Go.Proofs.Ytdamnbldimompaa
