/- Walks of layers 12 and 14: whether a rule hits; which rule of a table hits; no condition. -/
import Derived.Test.YthmopkaecbebpaaD16
namespace Go.Peri
open Go.RowKit
theorem ReqV.below {w w' : World} {B : Nat} {m h p b : ByteArray} {l : List Hd} {a : Option Addr} {cap : Nat} (x : ReqV w B m h p b l a cap) (hb : Below B w w') : ReqV w' B m h p b l a cap := ⟨x.rows.below hb (fun _ h => h), x.len, x.wf, x.m, x.h, x.p, x.b⟩
end Go.Peri
namespace Go.Proofs.Ythmopkaecbebpaa
open Go.RowKit Go.Peri
namespace C16
/-- The place of the first rule that hits. -/
def ix (m h p : ByteArray) (hs : List Hd) (l : List Rl) : Nat := l.findIdx (fun r => C11.allR m h p hs r.preds)
def lookR (m h p : ByteArray) (hs : List Hd) (l : List Rl) : Int := if ix m h p hs l < l.length then ix m h p hs l else -1
theorem look_hit {m h p : ByteArray} {hs : List Hd} {l : List Rl} {k : Nat} (hk : k < l.length) (h1 : C11.allR m h p hs l[k].preds = true) (h2 : ∀ j (_ : j < k) (hj : j < l.length), C11.allR m h p hs l[j].preds = false) : lookR m h p hs l = k := by
  have : ix m h p hs l = k := by
    unfold ix
    rw [List.findIdx_eq hk]
    exact ⟨h1, fun j hj => h2 j hj (by omega)⟩
  unfold lookR
  rw [this, if_pos hk]
theorem look_none {m h p : ByteArray} {hs : List Hd} {l : List Rl} (h2 : ∀ j (hj : j < l.length), C11.allR m h p hs l[j].preds = false) : lookR m h p hs l = -1 := by
  unfold lookR
  rw [if_neg]
  intro hz
  have h3 := List.findIdx_getElem (p := fun r : Rl => C11.allR m h p hs r.preds) (w := hz)
  have h4 := h2 _ hz
  unfold ix at h4
  rw [h4] at h3
  exact absurd h3 (by simp)
theorem look_lt {m h p : ByteArray} {hs : List Hd} {l : List Rl} : -1 ≤ lookR m h p hs l ∧ lookR m h p hs l < l.length := by
  unfold lookR
  split <;> omega
set_option maxRecDepth 100000 in
set_option maxHeartbeats 1000000 in
theorem hits_any {B : Nat} (r : Rl) (m h p b : ByteArray) (hs : List Hd) (a0 : Option Addr) (cap0 : Nat) (q : Bool) (W : World) (hr : r.Wf W B) (hq : ReqV W B m h p b hs a0 cap0) (hB : B ≤ W.heap.size) (hn : hs.length ≤ 1000000) (hl : r.preds.length ≤ 1000000000) (hh : C11.allR m h p hs r.preds = q) :
    Calls Try.prog 147 #[.agg #[.int .i64 r.rank, .slice r.pa r.preds.length r.pcap, .string r.target, .int .i64 r.ap, .int .i64 r.as_, .int .i64 r.dp, .int .i64 r.dt, .int .i64 r.mp, .string r.mirror, .int .i64 r.sample], .agg #[.string m, .string h, .string p, .slice a0 hs.length cap0, .string b]] W fun e w' => e = .returned (.bool q) ∧ Below W.heap.size W w' := by
  have HA := hid (fun w' (hw : Below W.heap.size W w') => C11.all_any (.slice r.pa r.preds.length r.pcap) r.preds m h p b hs a0 cap0 q w' (hr.rows.below (hw.mono hB) (fun _ h => h)) (fun b hb => Nat.lt_of_lt_of_le hb (Nat.le_trans hB hw.size)) (hq.rows.below (hw.mono hB) (fun _ h => h)) (fun b hb => Nat.lt_of_lt_of_le hb (Nat.le_trans hB hw.size)) hn hl hh)
  have HB0 : Hid (Below W.heap.size W ((W.alloc (.cells #[.int .i64 r.rank, .slice r.pa r.preds.length r.pcap, .string r.target, .int .i64 r.ap, .int .i64 r.as_, .int .i64 r.dp, .int .i64 r.dt, .int .i64 r.mp, .string r.mirror, .int .i64 r.sample] 123)).alloc (.cells #[.string m, .string h, .string p, .slice a0 hs.length cap0, .string b] 113))) := by show Below _ _ _; go_grown
  clear hr hq hh
  go_enter Try.func147, Try.ntmps147
  go_wp2_with fail
  refine (HA.out _ HB0.out).mono ?_
  rintro e w1 ⟨rfl, hb1⟩
  have HB1 := hid (HB0.out.trans (hb1.mono HB0.out.size))
  clear hb1
  go_wp2_with fail
  go_ret
  exact ⟨rfl, HB1.out⟩
set_option maxRecDepth 100000 in
set_option maxHeartbeats 1000000 in
theorem rhits_any {B : Nat} (r : Rl) (m h p b : ByteArray) (hs : List Hd) (a0 : Option Addr) (cap0 : Nat) (q : Bool) (W : World) (hr : r.Wf W B) (hq : ReqV W B m h p b hs a0 cap0) (hB : B ≤ W.heap.size) (hn : hs.length ≤ 1000000) (hl : r.preds.length ≤ 1000000000) (hh : C11.allR m h p hs r.preds = q) :
    Calls Try.prog 108 #[.agg #[.int .i64 r.rank, .slice r.pa r.preds.length r.pcap, .string r.target, .int .i64 r.ap, .int .i64 r.as_, .int .i64 r.dp, .int .i64 r.dt, .int .i64 r.mp, .string r.mirror, .int .i64 r.sample], .agg #[.string m, .string h, .string p, .slice a0 hs.length cap0, .string b]] W fun e w' => e = .returned (.bool q) ∧ Below W.heap.size W w' := by
  have HA := hid (fun w' (hw : Below W.heap.size W w') => C11.rall_any (.slice r.pa r.preds.length r.pcap) r.preds m h p b hs a0 cap0 q w' (hr.rows.below (hw.mono hB) (fun _ h => h)) (fun b hb => Nat.lt_of_lt_of_le hb (Nat.le_trans hB hw.size)) (hq.rows.below (hw.mono hB) (fun _ h => h)) (fun b hb => Nat.lt_of_lt_of_le hb (Nat.le_trans hB hw.size)) hn hl hh)
  have HB0 : Hid (Below W.heap.size W ((W.alloc (.cells #[.int .i64 r.rank, .slice r.pa r.preds.length r.pcap, .string r.target, .int .i64 r.ap, .int .i64 r.as_, .int .i64 r.dp, .int .i64 r.dt, .int .i64 r.mp, .string r.mirror, .int .i64 r.sample] 123)).alloc (.cells #[.string m, .string h, .string p, .slice a0 hs.length cap0, .string b] 113))) := by show Below _ _ _; go_grown
  clear hr hq hh
  go_enter Try.func108, Try.ntmps108
  go_wp2_with fail
  refine (HA.out _ HB0.out).mono ?_
  rintro e w1 ⟨rfl, hb1⟩
  have HB1 := hid (HB0.out.trans (hb1.mono HB0.out.size))
  clear hb1
  go_wp2_with fail
  go_ret
  exact ⟨rfl, HB1.out⟩
set_option maxRecDepth 100000 in
set_option maxHeartbeats 1000000 in
theorem lit_any {B : Nat} (r : Rl) (m h p b : ByteArray) (hs : List Hd) (a0 : Option Addr) (cap0 : Nat) (q : Bool) (X : Nat) (W : World) (hr : r.Wf W B) (hq : ReqV W B m h p b hs a0 cap0) (hB : B ≤ W.heap.size) (hn : hs.length ≤ 1000000) (hl : r.preds.length ≤ 1000000000) (hh : C11.allR m h p hs r.preds = q) (hx : Blk W X #[.string m, .string h, .string p, .slice a0 hs.length cap0, .string b] 113) :
    Calls Try.prog 146 #[.agg #[.int .i64 r.rank, .slice r.pa r.preds.length r.pcap, .string r.target, .int .i64 r.ap, .int .i64 r.as_, .int .i64 r.dp, .int .i64 r.dt, .int .i64 r.mp, .string r.mirror, .int .i64 r.sample], .pointer (some ⟨X, 0, none⟩)] W fun e w' => e = .returned (.bool q) ∧ Below W.heap.size W w' := by
  have HA := hid (fun w' (hw : Below W.heap.size W w') => hits_any r m h p b hs a0 cap0 q w' (hr.below (hw.mono hB)) (hq.below (hw.mono hB)) (Nat.le_trans hB hw.size) hn hl hh)
  have HB0 : Hid (Below W.heap.size W (W.alloc (.cells #[.int .i64 r.rank, .slice r.pa r.preds.length r.pcap, .string r.target, .int .i64 r.ap, .int .i64 r.as_, .int .i64 r.dp, .int .i64 r.dt, .int .i64 r.mp, .string r.mirror, .int .i64 r.sample] 123))) := by show Below _ _ _; go_grown
  have y0 : W.cell? ⟨X, 0, none⟩ = some (.string m) := hx.cell 0
  have y1 : W.cell? ⟨X, 1, none⟩ = some (.string h) := hx.cell 1
  have y2 : W.cell? ⟨X, 2, none⟩ = some (.string p) := hx.cell 2
  have y3 : W.cell? ⟨X, 3, none⟩ = some (.slice a0 hs.length cap0) := hx.cell 3
  have y4 : W.cell? ⟨X, 4, none⟩ = some (.string b) := hx.cell 4
  have hlt := hx.lt
  clear hr hq hh hx
  go_enter Try.func146, Try.ntmps146
  go_wp2_with fail
  refine (HA.out _ HB0.out).mono ?_
  rintro e w1 ⟨rfl, hb1⟩
  have HB1 := hid (HB0.out.trans (hb1.mono HB0.out.size))
  clear hb1
  go_wp2_with fail
  go_ret
  exact ⟨rfl, HB1.out⟩
set_option maxRecDepth 100000 in
set_option maxHeartbeats 1000000 in
theorem index_any {B : Nat} (v : Value) (l : List Rl) (m h p b : ByteArray) (hs : List Hd) (a0 : Option Addr) (cap0 : Nat) (X : Nat) (W : World) (hl : RowsOf (· < B) Rl.enc 10 W v l) (hw : ∀ r ∈ l, r.Wf W B) (hq : ReqV W B m h p b hs a0 cap0) (hB : B ≤ W.heap.size) (hn : hs.length ≤ 1000000) (hll : l.length ≤ 10000000000000) (hps : ∀ r ∈ l, r.preds.length ≤ 1000000000) (hx : Blk W X #[.string m, .string h, .string p, .slice a0 hs.length cap0, .string b] 113) :
    Calls Try.prog 145 #[v, .func (.func 146) #[] #[.pointer (some ⟨X, 0, none⟩)]] W fun e w' => e = .returned (.int .i64 (lookR m h p hs l)) ∧ Below W.heap.size W w' := by
  obtain ⟨a, cap, rfl, hlc, hcm, _, hcell⟩ := hl
  have HC := hid hcell
  have HLT := hid (fun (r : Rl) (q : Bool) (w' : World) (hr : r ∈ l) (hh : C11.allR m h p hs r.preds = q) (hb : Below W.heap.size W w') => lit_any r m h p b hs a0 cap0 q X w' ((hw r hr).below (hb.mono hB)) (hq.below (hb.mono hB)) (Nat.le_trans hB hb.size) hn (hps r hr) hh (hx.later hb))
  clear hcell hw hq hps hx
  go_enter Try.func145, Try.ntmps145
  go_wp2_with fail
  go_loopw [8] (fun i wr => ∃ k : Nat, k ≤ l.length ∧ i = .int .i64 k ∧ Below W.heap.size W wr ∧ ∀ j (_ : j < k) (hj : j < l.length), C11.allR m h p hs l[j].preds = false) (fun i _ => l.length - (intOf i).toNat)
  case atStart => exact ⟨0, Nat.zero_le _, rfl, Below.refl _ _, fun j hj => absurd hj (Nat.not_lt_zero _)⟩
  case round =>
    obtain ⟨k, hk, rfl, hb, hno⟩ := hrel
    have HB := hid hb
    have HN := hid hno
    clear hb hno
    by_cases hlt : k < l.length
    · obtain ⟨bb, off, rfl, hpb, hc⟩ := HC.out.resolve_left (by intro e; rw [e] at hlt; simp at hlt)
      have hbl0 : bb < W.heap.size := Nat.lt_of_lt_of_le hpb hB
      have hbl : bb < wr.heap.size := Nat.lt_of_lt_of_le hbl0 HB.out.size
      obtain ⟨c0, c1, c2, c3, c4, c5, c6, c7, c8, c9⟩ := Rl.cells (fun j u hu => (HB.out.cell (p := ⟨bb, off + k * 10 + j, none⟩) hbl0).trans (hc k hlt j u hu))
      obtain ⟨bq, hbq⟩ : ∃ bq, C11.allR m h p hs l[k].preds = bq := ⟨_, rfl⟩
      have HLit := hid (fun w' (hb : Below W.heap.size W w') => HLT.out l[k] bq w' (List.getElem_mem hlt) hbq hb)
      have HNext : Hid (bq = false → ∀ j (_ : j < k + 1) (hj : j < l.length), C11.allR m h p hs l[j].preds = false) := by
        intro e j hj hjl
        by_cases e2 : j = k
        · subst e2; rw [e] at hbq; exact hbq
        · exact HN.out j (by omega) hjl
      have HHit : Hid (bq = true → lookR m h p hs l = k) := fun e => by
        rw [e] at hbq
        exact look_hit hlt hbq HN.out
      clear hc hbq
      generalize l[k] = y at c0 c1 c2 c3 c4 c5 c6 c7 c8 c9 HLit
      cases bq
      · go_wp2_with fail
        refine (HLit.out _ HB.out).mono ?_
        rintro e w1 ⟨rfl, hb1⟩
        have HB1 := hid (HB.out.trans (hb1.mono HB.out.size))
        clear hb1
        go_wp2_with fail
        go_roundw
        case rel => exact ⟨k + 1, by omega, by go_num, HB1.out, HNext.out (by simp)⟩
        case measure => simp [intOf]; omega
      · go_wp2_with fail
        refine (HLit.out _ HB.out).mono ?_
        rintro e w1 ⟨rfl, hb1⟩
        have HB1 := hid (HB.out.trans (hb1.mono HB.out.size))
        clear hb1
        go_wp2_with fail
        go_ret
        exact ⟨by rw [HHit.out (by simp)]; rfl, HB1.out⟩
    · obtain rfl : k = l.length := by omega
      have hd : Hid (lookR m h p hs l = -1) := hid (look_none (fun j hj => HN.out j hj hj))
      go_wp2_with fail
      go_ret
      exact ⟨by rw [hd.out]; rfl, HB.out⟩
set_option maxRecDepth 100000 in
set_option maxHeartbeats 1000000 in
theorem look_any {B : Nat} (n : Int) (l : List Rl) (a : Option Addr) (cap : Nat) (f : ByteArray) (m h p b : ByteArray) (hs : List Hd) (a0 : Option Addr) (cap0 : Nat) (r : Int) (W : World) (ht : TabV W B l a cap f) (hq : ReqV W B m h p b hs a0 cap0) (hB : B ≤ W.heap.size) (hn : hs.length ≤ 1000000) (hps : ∀ r ∈ l, r.preds.length ≤ 1000000000) (hr : lookR m h p hs l = r) :
    Calls Try.prog 134 #[.agg #[.int .i64 n, .slice a l.length cap, .string f], .agg #[.string m, .string h, .string p, .slice a0 hs.length cap0, .string b]] W fun e w' => e = .returned (.int .i64 r) ∧ Below W.heap.size W w' := by
  have HB0 : Hid (Below W.heap.size W ((W.alloc (.cells #[.int .i64 n, .slice a l.length cap, .string f] 110)).alloc (.cells #[.string m, .string h, .string p, .slice a0 hs.length cap0, .string b] 113))) := by show Below _ _ _; go_grown
  have hB0 := HB0.out
  have HI := hid (index_any (.slice a l.length cap) l m h p b hs a0 cap0 (W.heap.size + 1) ((W.alloc (.cells #[.int .i64 n, .slice a l.length cap, .string f] 110)).alloc (.cells #[.string m, .string h, .string p, .slice a0 hs.length cap0, .string b] 113)) (ht.rows.below (hB0.mono hB) (fun _ h => h)) (fun r hr => (ht.wf r hr).below (hB0.mono hB)) (hq.below (hB0.mono hB)) (Nat.le_trans hB hB0.size) hn (by have := ht.len; omega) hps (Blk.new' _ _ _ (by simp)))
  rw [hr] at HI
  clear ht hq hps hr hB0
  go_enter Try.func134, Try.ntmps134
  go_wp2_with fail
  refine HI.out.mono ?_
  rintro e w1 ⟨rfl, hb1⟩
  have HB1 := hid (HB0.out.trans (hb1.mono HB0.out.size))
  clear hb1
  go_wp2_with fail
  go_ret
  exact ⟨rfl, HB1.out⟩
set_option maxRecDepth 100000 in
set_option maxHeartbeats 1000000 in
theorem rlook_any {B : Nat} (n : Int) (l : List Rl) (a : Option Addr) (cap : Nat) (f : ByteArray) (m h p b : ByteArray) (hs : List Hd) (a0 : Option Addr) (cap0 : Nat) (r : Int) (W : World) (ht : TabV W B l a cap f) (hq : ReqV W B m h p b hs a0 cap0) (hB : B ≤ W.heap.size) (hn : hs.length ≤ 1000000) (hps : ∀ r ∈ l, r.preds.length ≤ 1000000000) (hr : lookR m h p hs l = r) :
    Calls Try.prog 69 #[.agg #[.int .i64 n, .slice a l.length cap, .string f], .agg #[.string m, .string h, .string p, .slice a0 hs.length cap0, .string b]] W fun e w' => e = .returned (.int .i64 r) ∧ Below W.heap.size W w' := by
  have HB0 : Hid (Below W.heap.size W ((W.alloc (.cells #[.int .i64 n, .slice a l.length cap, .string f] 110)).alloc (.cells #[.string m, .string h, .string p, .slice a0 hs.length cap0, .string b] 113))) := by show Below _ _ _; go_grown
  have HLT := hid (fun (r : Rl) (q : Bool) (w' : World) (hr : r ∈ l) (hh : C11.allR m h p hs r.preds = q) (hb : Below W.heap.size W w') => rhits_any r m h p b hs a0 cap0 q w' ((ht.wf r hr).below (hb.mono hB)) (hq.below (hb.mono hB)) (Nat.le_trans hB hb.size) hn (hps r hr) hh)
  have HZ := hid ((Blk.new W #[.int .i64 n, .slice a l.length cap, .string f] 110).alloc (.cells #[.string m, .string h, .string p, .slice a0 hs.length cap0, .string b] 113))
  have HY := hid (Blk.new' (W.alloc (.cells #[.int .i64 n, .slice a l.length cap, .string f] 110)) #[.string m, .string h, .string p, .slice a0 hs.length cap0, .string b] 113 (n := W.heap.size + 1) (by simp))
  obtain ⟨⟨a9, cap9, e9, hlc, hcm, _, hcell⟩, hlen, _, _⟩ := ht
  cases e9
  have HC := hid hcell
  have HR := hid hr
  clear hcell hq hps hr
  go_enter Try.func69, Try.ntmps69
  go_wp2_with fail
  go_loopw [5] (fun i wr => ∃ k : Nat, k ≤ l.length ∧ i = .int .i64 k ∧ Below ((W.alloc (.cells #[.int .i64 n, .slice a l.length cap, .string f] 110)).alloc (.cells #[.string m, .string h, .string p, .slice a0 hs.length cap0, .string b] 113)).heap.size ((W.alloc (.cells #[.int .i64 n, .slice a l.length cap, .string f] 110)).alloc (.cells #[.string m, .string h, .string p, .slice a0 hs.length cap0, .string b] 113)) wr ∧ ∀ j (_ : j < k) (hj : j < l.length), C11.allR m h p hs l[j].preds = false) (fun i _ => l.length - (intOf i).toNat)
  case atStart => exact ⟨0, Nat.zero_le _, rfl, Below.refl _ _, fun j hj => absurd hj (Nat.not_lt_zero _)⟩
  case round =>
    obtain ⟨k, hk, rfl, hb, hno⟩ := hrel
    have HB := hid hb
    have HN := hid hno
    have HW := hid (HB0.out.trans (hb.mono HB0.out.size))
    have hz := HZ.out.later hb
    have hy := HY.out.later hb
    have z1 : wr.cell? ⟨W.heap.size, 1, none⟩ = some (.slice a l.length cap) := hz.cell 1
    have y0 : wr.cell? ⟨W.heap.size + 1, 0, none⟩ = some (.string m) := hy.cell 0
    have y1 : wr.cell? ⟨W.heap.size + 1, 1, none⟩ = some (.string h) := hy.cell 1
    have y2 : wr.cell? ⟨W.heap.size + 1, 2, none⟩ = some (.string p) := hy.cell 2
    have y3 : wr.cell? ⟨W.heap.size + 1, 3, none⟩ = some (.slice a0 hs.length cap0) := hy.cell 3
    have y4 : wr.cell? ⟨W.heap.size + 1, 4, none⟩ = some (.string b) := hy.cell 4
    have hlz := hz.lt
    have hly := hy.lt
    clear hz hy
    clear hb hno
    by_cases hlt : k < l.length
    · obtain ⟨bb, off, rfl, hpb, hc⟩ := HC.out.resolve_left (by intro e; rw [e] at hlt; simp at hlt)
      have hbl0 : bb < W.heap.size := Nat.lt_of_lt_of_le hpb hB
      have hbl : bb < wr.heap.size := Nat.lt_of_lt_of_le hbl0 HW.out.size
      obtain ⟨c0, c1, c2, c3, c4, c5, c6, c7, c8, c9⟩ := Rl.cells (fun j u hu => (HW.out.cell (p := ⟨bb, off + k * 10 + j, none⟩) hbl0).trans (hc k hlt j u hu))
      obtain ⟨bq, hbq⟩ : ∃ bq, C11.allR m h p hs l[k].preds = bq := ⟨_, rfl⟩
      have HLit : Hid (∀ x : BW wr, Calls Try.prog 108 #[.agg #[.int .i64 l[k].rank, .slice l[k].pa l[k].preds.length l[k].pcap, .string l[k].target, .int .i64 l[k].ap, .int .i64 l[k].as_, .int .i64 l[k].dp, .int .i64 l[k].dt, .int .i64 l[k].mp, .string l[k].mirror, .int .i64 l[k].sample], .agg #[.string m, .string h, .string p, .slice a0 hs.length cap0, .string b]] x.val fun e w' => e = .returned (.bool bq) ∧ Below x.val.heap.size x.val w') := hid (fun x => HLT.out l[k] bq x.val (List.getElem_mem hlt) hbq (HW.out.trans (x.prop.mono HW.out.size)))
      have HNext : Hid (bq = false → ∀ j (_ : j < k + 1) (hj : j < l.length), C11.allR m h p hs l[j].preds = false) := by
        intro e j hj hjl
        by_cases e2 : j = k
        · subst e2; rw [e] at hbq; exact hbq
        · exact HN.out j (by omega) hjl
      have HHit : Hid (bq = true → lookR m h p hs l = k) := fun e => by
        rw [e] at hbq
        exact look_hit hlt hbq HN.out
      clear hc hbq
      generalize l[k] = y at c0 c1 c2 c3 c4 c5 c6 c7 c8 c9 HLit
      cases bq
      · go_wp2_with fail
        refine wp_region_bw (by kernel_rfl) (by kernel_rfl) ?_
        repeat (go_big_quiet_step ((go_at_call 108; exact bw_call (HLit.out _))))
        refine wpQuiet_nil ?_
        rintro w2 ⟨⟨_, hbw⟩, rfl⟩
        have HB1 := hid (HB.out.trans (hbw.mono HB.out.size))
        clear hbw
        go_wp2_with fail
        go_roundw
        case rel => exact ⟨k + 1, by omega, by go_num, HB1.out, HNext.out (by simp)⟩
        case measure => simp [intOf]; omega
      · go_wp2_with fail
        refine wp_region_bw (by kernel_rfl) (by kernel_rfl) ?_
        repeat (go_big_quiet_step ((go_at_call 108; exact bw_call (HLit.out _))))
        refine wpQuiet_nil ?_
        rintro w2 ⟨⟨_, hbw⟩, rfl⟩
        have HB1 := hid (HW.out.trans (hbw.mono HW.out.size))
        clear hbw
        go_wp2_with fail
        go_ret
        exact ⟨by rw [← HR.out, HHit.out (by simp)]; rfl, HB1.out⟩
    · obtain rfl : k = l.length := by omega
      have hd : Hid (lookR m h p hs l = -1) := hid (look_none (fun j hj => HN.out j hj hj))
      go_wp2_with fail
      go_ret
      exact ⟨by rw [← HR.out, hd.out]; rfl, HW.out⟩
end C16
end Go.Proofs.Ythmopkaecbebpaa
