/- Walks of layer 35 (graph): where the first one of a name stands; no condition. -/
import Derived.Test.YtahakgmfkplidaaI35
import Derived.Test.YtahakgmfkplidaaGx
namespace Go.Proofs.Ytahakgmfkplidaa
open Go.RowKit Go.Peri
namespace C35
set_option maxRecDepth 100000 in
theorem routed_any (s : ByteArray) (a : Option Addr) (n c : Nat) (w : World) : Calls Try.prog 25 #[.agg #[.string s, .slice a n c]] w fun e w' => e = .returned (.string s) ∧ Below w.heap.size w w' := by
  go_enter Try.func25, Try.ntmps25
  go_wp2_with fail
  go_ret
  exact ⟨rfl, by go_grown⟩
set_option maxRecDepth 100000 in
theorem hlit (s nm : ByteArray) (a : Option Addr) (n c : Nat) (q : Bool) (B : Nat) (w : World) (hB : B + 1 < w.heap.size) (h0 : w.cell? ⟨B, 0, none⟩ = some (.string nm)) (h1 : w.cell? ⟨B + 1, 0, none⟩ = some (.func (.func 25) #[] #[])) (hq : decide (s = nm) = q) :
    Calls Try.prog 34 #[.agg #[.string s, .slice a n c], .pointer (some ⟨B + 1, 0, none⟩), .pointer (some ⟨B, 0, none⟩)] w fun e w' => e = .returned (.bool q) ∧ Below w.heap.size w w' := by
  obtain ⟨s1, s2⟩ := strEq_of hq
  clear hq
  have XO : Hid (∀ w : World, Calls Try.prog 25 #[.agg #[.string s, .slice a n c]] w fun e w' => e = .returned (.string s) ∧ Below w.heap.size w w') := hid (fun w => routed_any s a n c w)
  go_enter Try.func34, Try.ntmps34
  go_upto_region 1 with fail
  refine wp_genG ?_
  intro w1 hw1
  have hb1 : Below w.heap.size w w1 := by rw [hw1]; go_grown
  have hk1 : Blk w1 w.heap.size #[.string s, .slice a n c] 42 := by rw [hw1]; exact Blk.new _ _ _
  clear hw1
  have HB1 := hid hb1
  have x0 := hk1.cell 0
  have x1 := hk1.cell 1
  simp only [List.getElem?_toArray, List.getElem?_cons_zero, List.getElem?_cons_succ] at x0 x1
  have hlx := hk1.lt
  have c0 := (hb1.cell (p := ⟨B, 0, none⟩) (by show B < _; omega)).trans h0
  have c1 := (hb1.cell (p := ⟨B + 1, 0, none⟩) (by show B + 1 < _; omega)).trans h1
  have hl0 : B < w1.heap.size := by omega
  have hl1 : B + 1 < w1.heap.size := by omega
  clear hb1 hk1 h0 h1
  refine wp_region_bw (by kernel_rfl) (by kernel_rfl) ?_
  repeat (go_big_quiet_step ((go_at_call 25; exact bw_call (XO.out _))))
  refine wpQuiet_nil ?_
  rintro w2 ⟨⟨_, hb2⟩, rfl⟩
  have HB2 := hid (HB1.out.trans (hb2.mono HB1.out.size))
  clear hb2 x0 x1 c0 c1 XO hlx hl0 hl1
  go_wp2_with fail
  go_ret
  exact ⟨rfl, HB2.out⟩
set_option maxRecDepth 100000 in
theorem hindex_any {p : Nat → Prop} (v : Value) (l : List Hn) (n : ByteArray) (B : Nat) (W : World) (h : RowsOf p Hn.enc 2 W v l) (hp : ∀ b, p b → b < W.heap.size) (hl : l.length ≤ 10000000000000) (hB : B + 1 < W.heap.size) (h0 : W.cell? ⟨B, 0, none⟩ = some (.string n)) (h1 : W.cell? ⟨B + 1, 0, none⟩ = some (.func (.func 25) #[] #[])) :
    Calls Try.prog 33 #[v, .func (.func 34) #[] #[.pointer (some ⟨B + 1, 0, none⟩), .pointer (some ⟨B, 0, none⟩)]] W fun e w' => e = .returned (.int .i64 (Gx.atI Hn.path l n)) ∧ Below W.heap.size W w' := by
  obtain ⟨a, cap, rfl, hlc, hcm, _, hcell⟩ := h
  have HC := hid hcell
  have HP := hid hp
  have HC0 := hid h0
  have HC1 := hid h1
  clear hcell hp h0 h1
  go_enter Try.func33, Try.ntmps33
  go_wp2_with fail
  go_loopw [8] (fun i wr => ∃ k : Nat, k ≤ l.length ∧ i = .int .i64 k ∧ Below W.heap.size W wr ∧ ∀ j (_ : j < k) (hj : j < l.length), Hn.path l[j] ≠ n) (fun i _ => l.length - (intOf i).toNat)
  case atStart => exact ⟨0, Nat.zero_le _, rfl, Below.refl _ _, fun j hj => absurd hj (Nat.not_lt_zero _)⟩
  case round =>
    obtain ⟨k, hk, rfl, hb, hno⟩ := hrel
    have HB := hid hb
    have HN := hid hno
    clear hb hno
    by_cases hlt : k < l.length
    · obtain ⟨b, off, rfl, hpb, hc⟩ := HC.out.resolve_left (by intro e; rw [e] at hlt; simp at hlt)
      have hbl := HP.out b hpb
      obtain ⟨c0, c1⟩ := Hn.cells (fun j u hu => (HB.out.cell (p := ⟨b, off + k * 2 + j, none⟩) hbl).trans (hc k hlt j u hu))
      obtain ⟨bq, hq⟩ : ∃ bq, decide (Hn.path l[k] = n) = bq := ⟨_, rfl⟩
      have hws := HB.out.size
      have HLit := hid (fun a m c => hlit (Hn.path l[k]) n a m c bq B wr (by omega) ((HB.out.cell (p := ⟨B, 0, none⟩) (by show B < _; omega)).trans HC0.out) ((HB.out.cell (p := ⟨B + 1, 0, none⟩) hB).trans HC1.out) hq)
      have HNext : Hid (bq = false → ∀ j (_ : j < k + 1) (hj : j < l.length), Hn.path l[j] ≠ n) := by
        intro e j hj hjl
        by_cases e2 : j = k
        · subst e2; rw [e] at hq; exact of_decide_eq_false hq
        · exact HN.out j (by omega) hjl
      have HHit : Hid (bq = true → Gx.atI Hn.path l n = k) := fun e => by
        rw [e] at hq
        exact Gx.atI_hit hlt (of_decide_eq_true hq) HN.out
      clear hc hq
      generalize l[k] = y at c0 c1 HLit
      cases bq
      · go_wp2_with fail
        refine (HLit.out _ _ _).mono ?_
        rintro e w1 ⟨rfl, hb1⟩
        have HB1 := hid (HB.out.trans (hb1.mono HB.out.size))
        clear hb1
        go_wp2_with fail
        go_roundw
        case rel => exact ⟨k + 1, by omega, by go_num, HB1.out, HNext.out (by simp)⟩
        case measure => simp [intOf]; omega
      · go_wp2_with fail
        refine (HLit.out _ _ _).mono ?_
        rintro e w1 ⟨rfl, hb1⟩
        have HB1 := hid (HB.out.trans (hb1.mono HB.out.size))
        clear hb1
        go_wp2_with fail
        go_ret
        exact ⟨by rw [HHit.out (by simp)]; rfl, HB1.out⟩
    · obtain rfl : k = l.length := by omega
      have hd : Hid (Gx.atI Hn.path l n = -1) := hid (Gx.atI_none (fun j hj => HN.out j hj hj))
      go_wp2_with fail
      go_ret
      exact ⟨by rw [hd.out]; rfl, HB.out⟩
set_option maxRecDepth 100000 in
theorem hfind_any {p : Nat → Prop} (v : Value) (l : List Hn) (n : ByteArray) (r : Int) (W : World) (h : RowsOf p Hn.enc 2 W v l) (hp : ∀ b, p b → b < W.heap.size) (hl : l.length ≤ 10000000000000) (hr : Gx.atI Hn.path l n = r) :
    Calls Try.prog 24 #[v, .string n, .func (.func 25) #[] #[]] W fun e w' => e = .returned (.int .i64 r) ∧ Below W.heap.size W w' := by
  have hmf : ∀ (fn : Fn) (first cap : Array Value) (w : World), (Instr.makeFunc fn first cap).run Try.prog w = .ok (.func fn first cap) w := fun _ _ _ _ => rfl
  have HV := hid h
  have HP := hid hp
  obtain ⟨a, cap, rfl, -⟩ := h
  clear hp
  go_enter Try.func24, Try.ntmps24
  go_upto_region 1 with fail
  refine wp_genG ?_
  intro w1 hw1
  have hb1 : Below W.heap.size W w1 := by rw [hw1]; go_grown
  have hk1 : Blk w1 W.heap.size #[.string n] 9 := by rw [hw1]; exact (Blk.new _ _ _).alloc _
  have hk2 : Blk w1 (W.heap.size + 1) #[.func (.func 25) #[] #[]] 50 := by rw [hw1]; exact Blk.new' _ _ _ (by simp)
  clear hw1
  have HI := hid (hindex_any (p := p) (.slice a l.length cap) l n W.heap.size w1 (HV.out.below hb1 HP.out) (fun b hb => Nat.lt_of_lt_of_le (HP.out b hb) hb1.size) hl hk2.lt (hk1.cell 0) (hk2.cell 0))
  rw [hr] at HI
  have HB1 := hid hb1
  clear hb1 hk1 hk2 hr
  go_wp2_with fail
  refine HI.out.mono ?_
  rintro e w2 ⟨rfl, hb2⟩
  have HB2 := hid (HB1.out.trans (hb2.mono HB1.out.size))
  clear hb2
  go_wp2_with fail
  go_ret
  exact ⟨rfl, HB2.out⟩
set_option maxRecDepth 100000 in
theorem called_any (s : ByteArray) (a : Option Addr) (n c : Nat) (w : World) : Calls Try.prog 28 #[.agg #[.string s, .slice a n c]] w fun e w' => e = .returned (.string s) ∧ Below w.heap.size w w' := by
  go_enter Try.func28, Try.ntmps28
  go_wp2_with fail
  go_ret
  exact ⟨rfl, by go_grown⟩
set_option maxRecDepth 100000 in
theorem slit (s nm : ByteArray) (a : Option Addr) (n c : Nat) (q : Bool) (B : Nat) (w : World) (hB : B + 1 < w.heap.size) (h0 : w.cell? ⟨B, 0, none⟩ = some (.string nm)) (h1 : w.cell? ⟨B + 1, 0, none⟩ = some (.func (.func 28) #[] #[])) (hq : decide (s = nm) = q) :
    Calls Try.prog 36 #[.agg #[.string s, .slice a n c], .pointer (some ⟨B + 1, 0, none⟩), .pointer (some ⟨B, 0, none⟩)] w fun e w' => e = .returned (.bool q) ∧ Below w.heap.size w w' := by
  obtain ⟨s1, s2⟩ := strEq_of hq
  clear hq
  have XO : Hid (∀ w : World, Calls Try.prog 28 #[.agg #[.string s, .slice a n c]] w fun e w' => e = .returned (.string s) ∧ Below w.heap.size w w') := hid (fun w => called_any s a n c w)
  go_enter Try.func36, Try.ntmps36
  go_upto_region 1 with fail
  refine wp_genG ?_
  intro w1 hw1
  have hb1 : Below w.heap.size w w1 := by rw [hw1]; go_grown
  have hk1 : Blk w1 w.heap.size #[.string s, .slice a n c] 39 := by rw [hw1]; exact Blk.new _ _ _
  clear hw1
  have HB1 := hid hb1
  have x0 := hk1.cell 0
  have x1 := hk1.cell 1
  simp only [List.getElem?_toArray, List.getElem?_cons_zero, List.getElem?_cons_succ] at x0 x1
  have hlx := hk1.lt
  have c0 := (hb1.cell (p := ⟨B, 0, none⟩) (by show B < _; omega)).trans h0
  have c1 := (hb1.cell (p := ⟨B + 1, 0, none⟩) (by show B + 1 < _; omega)).trans h1
  have hl0 : B < w1.heap.size := by omega
  have hl1 : B + 1 < w1.heap.size := by omega
  clear hb1 hk1 h0 h1
  refine wp_region_bw (by kernel_rfl) (by kernel_rfl) ?_
  repeat (go_big_quiet_step ((go_at_call 28; exact bw_call (XO.out _))))
  refine wpQuiet_nil ?_
  rintro w2 ⟨⟨_, hb2⟩, rfl⟩
  have HB2 := hid (HB1.out.trans (hb2.mono HB1.out.size))
  clear hb2 x0 x1 c0 c1 XO hlx hl0 hl1
  go_wp2_with fail
  go_ret
  exact ⟨rfl, HB2.out⟩
set_option maxRecDepth 100000 in
theorem sindex_any {p : Nat → Prop} (v : Value) (l : List Sv) (n : ByteArray) (B : Nat) (W : World) (h : RowsOf p Sv.enc 2 W v l) (hp : ∀ b, p b → b < W.heap.size) (hl : l.length ≤ 10000000000000) (hB : B + 1 < W.heap.size) (h0 : W.cell? ⟨B, 0, none⟩ = some (.string n)) (h1 : W.cell? ⟨B + 1, 0, none⟩ = some (.func (.func 28) #[] #[])) :
    Calls Try.prog 35 #[v, .func (.func 36) #[] #[.pointer (some ⟨B + 1, 0, none⟩), .pointer (some ⟨B, 0, none⟩)]] W fun e w' => e = .returned (.int .i64 (Gx.atI Sv.name l n)) ∧ Below W.heap.size W w' := by
  obtain ⟨a, cap, rfl, hlc, hcm, _, hcell⟩ := h
  have HC := hid hcell
  have HP := hid hp
  have HC0 := hid h0
  have HC1 := hid h1
  clear hcell hp h0 h1
  go_enter Try.func35, Try.ntmps35
  go_wp2_with fail
  go_loopw [8] (fun i wr => ∃ k : Nat, k ≤ l.length ∧ i = .int .i64 k ∧ Below W.heap.size W wr ∧ ∀ j (_ : j < k) (hj : j < l.length), Sv.name l[j] ≠ n) (fun i _ => l.length - (intOf i).toNat)
  case atStart => exact ⟨0, Nat.zero_le _, rfl, Below.refl _ _, fun j hj => absurd hj (Nat.not_lt_zero _)⟩
  case round =>
    obtain ⟨k, hk, rfl, hb, hno⟩ := hrel
    have HB := hid hb
    have HN := hid hno
    clear hb hno
    by_cases hlt : k < l.length
    · obtain ⟨b, off, rfl, hpb, hc⟩ := HC.out.resolve_left (by intro e; rw [e] at hlt; simp at hlt)
      have hbl := HP.out b hpb
      obtain ⟨c0, c1⟩ := Sv.cells (fun j u hu => (HB.out.cell (p := ⟨b, off + k * 2 + j, none⟩) hbl).trans (hc k hlt j u hu))
      obtain ⟨bq, hq⟩ : ∃ bq, decide (Sv.name l[k] = n) = bq := ⟨_, rfl⟩
      have hws := HB.out.size
      have HLit := hid (fun a m c => slit (Sv.name l[k]) n a m c bq B wr (by omega) ((HB.out.cell (p := ⟨B, 0, none⟩) (by show B < _; omega)).trans HC0.out) ((HB.out.cell (p := ⟨B + 1, 0, none⟩) hB).trans HC1.out) hq)
      have HNext : Hid (bq = false → ∀ j (_ : j < k + 1) (hj : j < l.length), Sv.name l[j] ≠ n) := by
        intro e j hj hjl
        by_cases e2 : j = k
        · subst e2; rw [e] at hq; exact of_decide_eq_false hq
        · exact HN.out j (by omega) hjl
      have HHit : Hid (bq = true → Gx.atI Sv.name l n = k) := fun e => by
        rw [e] at hq
        exact Gx.atI_hit hlt (of_decide_eq_true hq) HN.out
      clear hc hq
      generalize l[k] = y at c0 c1 HLit
      cases bq
      · go_wp2_with fail
        refine (HLit.out _ _ _).mono ?_
        rintro e w1 ⟨rfl, hb1⟩
        have HB1 := hid (HB.out.trans (hb1.mono HB.out.size))
        clear hb1
        go_wp2_with fail
        go_roundw
        case rel => exact ⟨k + 1, by omega, by go_num, HB1.out, HNext.out (by simp)⟩
        case measure => simp [intOf]; omega
      · go_wp2_with fail
        refine (HLit.out _ _ _).mono ?_
        rintro e w1 ⟨rfl, hb1⟩
        have HB1 := hid (HB.out.trans (hb1.mono HB.out.size))
        clear hb1
        go_wp2_with fail
        go_ret
        exact ⟨by rw [HHit.out (by simp)]; rfl, HB1.out⟩
    · obtain rfl : k = l.length := by omega
      have hd : Hid (Gx.atI Sv.name l n = -1) := hid (Gx.atI_none (fun j hj => HN.out j hj hj))
      go_wp2_with fail
      go_ret
      exact ⟨by rw [hd.out]; rfl, HB.out⟩
set_option maxRecDepth 100000 in
theorem sfind_any {p : Nat → Prop} (v : Value) (l : List Sv) (n : ByteArray) (r : Int) (W : World) (h : RowsOf p Sv.enc 2 W v l) (hp : ∀ b, p b → b < W.heap.size) (hl : l.length ≤ 10000000000000) (hr : Gx.atI Sv.name l n = r) :
    Calls Try.prog 27 #[v, .string n, .func (.func 28) #[] #[]] W fun e w' => e = .returned (.int .i64 r) ∧ Below W.heap.size W w' := by
  have hmf : ∀ (fn : Fn) (first cap : Array Value) (w : World), (Instr.makeFunc fn first cap).run Try.prog w = .ok (.func fn first cap) w := fun _ _ _ _ => rfl
  have HV := hid h
  have HP := hid hp
  obtain ⟨a, cap, rfl, -⟩ := h
  clear hp
  go_enter Try.func27, Try.ntmps27
  go_upto_region 1 with fail
  refine wp_genG ?_
  intro w1 hw1
  have hb1 : Below W.heap.size W w1 := by rw [hw1]; go_grown
  have hk1 : Blk w1 W.heap.size #[.string n] 9 := by rw [hw1]; exact (Blk.new _ _ _).alloc _
  have hk2 : Blk w1 (W.heap.size + 1) #[.func (.func 28) #[] #[]] 53 := by rw [hw1]; exact Blk.new' _ _ _ (by simp)
  clear hw1
  have HI := hid (sindex_any (p := p) (.slice a l.length cap) l n W.heap.size w1 (HV.out.below hb1 HP.out) (fun b hb => Nat.lt_of_lt_of_le (HP.out b hb) hb1.size) hl hk2.lt (hk1.cell 0) (hk2.cell 0))
  rw [hr] at HI
  have HB1 := hid hb1
  clear hb1 hk1 hk2 hr
  go_wp2_with fail
  refine HI.out.mono ?_
  rintro e w2 ⟨rfl, hb2⟩
  have HB2 := hid (HB1.out.trans (hb2.mono HB1.out.size))
  clear hb2
  go_wp2_with fail
  go_ret
  exact ⟨rfl, HB2.out⟩
end C35
end Go.Proofs.Ytahakgmfkplidaa
