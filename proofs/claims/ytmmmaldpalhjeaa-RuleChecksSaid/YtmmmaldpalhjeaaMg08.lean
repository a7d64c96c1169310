/- Walks of layers 12 and 14: whether a rule hits; which rule of a table hits; no condition. Walks of layer 12 (rule): First; no condition. Walks of layer 12 (rule): what must come of fixed calls; no condition. -/
import Derived.Test.YtmmmaldpalhjeaaMg07
import Derived.Deep.Cut
import Derived.Test.YtmmmaldpalhjeaaMg03
namespace Go.Peri
open Go.RowKit
theorem ReqV.below {w w' : World} {B : Nat} {m h p b : ByteArray} {l : List Hd} {a : Option Addr} {cap : Nat} (x : ReqV w B m h p b l a cap) (hb : Below B w w') : ReqV w' B m h p b l a cap := ⟨x.rows.below hb (fun _ h => h), x.len, x.wf, x.m, x.h, x.p, x.b⟩
end Go.Peri
namespace Go.Proofs.Ytmmmaldpalhjeaa
open Go.RowKit Go.Peri
namespace C16
/-- The place of the first rule that hits. -/
def ix (m h p : ByteArray) (hs : List Hd) (l : List Rl) : Nat := l.findIdx (fun r => C11.allR m h p hs r.preds)
def lookR (m h p : ByteArray) (hs : List Hd) (l : List Rl) : Int := if ix m h p hs l < l.length then ix m h p hs l else -1
theorem look_hit {m h p : ByteArray} {hs : List Hd} {l : List Rl} {k : Nat} (hk : k < l.length) (h1 : C11.allR m h p hs l[k].preds = true) (h2 : ∀ j (_ : j < k) (hj : j < l.length), C11.allR m h p hs l[j].preds = false) : lookR m h p hs l = k := by
  have : ix m h p hs l = k := by
    unfold ix
    rw [List.findIdx_eq hk]
    exact ⟨h1, fun j hj => h2 j hj (by omega)⟩
  unfold lookR
  rw [this, if_pos hk]
theorem look_none {m h p : ByteArray} {hs : List Hd} {l : List Rl} (h2 : ∀ j (hj : j < l.length), C11.allR m h p hs l[j].preds = false) : lookR m h p hs l = -1 := by
  unfold lookR
  rw [if_neg]
  intro hz
  have h3 := List.findIdx_getElem (p := fun r : Rl => C11.allR m h p hs r.preds) (w := hz)
  have h4 := h2 _ hz
  unfold ix at h4
  rw [h4] at h3
  exact absurd h3 (by simp)
theorem look_lt {m h p : ByteArray} {hs : List Hd} {l : List Rl} : -1 ≤ lookR m h p hs l ∧ lookR m h p hs l < l.length := by
  unfold lookR
  split <;> omega
set_option maxRecDepth 100000 in
set_option maxHeartbeats 1000000 in
theorem hits_any {B : Nat} (r : Rl) (m h p b : ByteArray) (hs : List Hd) (a0 : Option Addr) (cap0 : Nat) (q : Bool) (W : World) (hr : r.Wf W B) (hq : ReqV W B m h p b hs a0 cap0) (hB : B ≤ W.heap.size) (hn : hs.length ≤ 1000000) (hl : r.preds.length ≤ 1000000000) (hh : C11.allR m h p hs r.preds = q) :
    Calls Try.prog 49 #[.agg #[.int .i64 r.rank, .slice r.pa r.preds.length r.pcap, .string r.target, .int .i64 r.ap, .int .i64 r.as_, .int .i64 r.dp, .int .i64 r.dt, .int .i64 r.mp, .string r.mirror, .int .i64 r.sample], .agg #[.string m, .string h, .string p, .slice a0 hs.length cap0, .string b]] W fun e w' => e = .returned (.bool q) ∧ Below W.heap.size W w' := by
  have HA := hid (fun w' (hw : Below W.heap.size W w') => C11.all_any (.slice r.pa r.preds.length r.pcap) r.preds m h p b hs a0 cap0 q w' (hr.rows.below (hw.mono hB) (fun _ h => h)) (fun b hb => Nat.lt_of_lt_of_le hb (Nat.le_trans hB hw.size)) (hq.rows.below (hw.mono hB) (fun _ h => h)) (fun b hb => Nat.lt_of_lt_of_le hb (Nat.le_trans hB hw.size)) hn hl hh)
  have HB0 : Hid (Below W.heap.size W ((W.alloc (.cells #[.int .i64 r.rank, .slice r.pa r.preds.length r.pcap, .string r.target, .int .i64 r.ap, .int .i64 r.as_, .int .i64 r.dp, .int .i64 r.dt, .int .i64 r.mp, .string r.mirror, .int .i64 r.sample] 60)).alloc (.cells #[.string m, .string h, .string p, .slice a0 hs.length cap0, .string b] 67))) := by show Below _ _ _; go_grown
  clear hr hq hh
  go_enter Try.func49, Try.ntmps49
  go_wp2_with fail
  refine (HA.out _ HB0.out).mono ?_
  rintro e w1 ⟨rfl, hb1⟩
  have HB1 := hid (HB0.out.trans (hb1.mono HB0.out.size))
  clear hb1
  go_wp2_with fail
  go_ret
  exact ⟨rfl, HB1.out⟩
set_option maxRecDepth 100000 in
set_option maxHeartbeats 1000000 in
theorem rhits_any {B : Nat} (r : Rl) (m h p b : ByteArray) (hs : List Hd) (a0 : Option Addr) (cap0 : Nat) (q : Bool) (W : World) (hr : r.Wf W B) (hq : ReqV W B m h p b hs a0 cap0) (hB : B ≤ W.heap.size) (hn : hs.length ≤ 1000000) (hl : r.preds.length ≤ 1000000000) (hh : C11.allR m h p hs r.preds = q) :
    Calls Try.prog 50 #[.agg #[.int .i64 r.rank, .slice r.pa r.preds.length r.pcap, .string r.target, .int .i64 r.ap, .int .i64 r.as_, .int .i64 r.dp, .int .i64 r.dt, .int .i64 r.mp, .string r.mirror, .int .i64 r.sample], .agg #[.string m, .string h, .string p, .slice a0 hs.length cap0, .string b]] W fun e w' => e = .returned (.bool q) ∧ Below W.heap.size W w' := by
  have HA := hid (fun w' (hw : Below W.heap.size W w') => C11.rall_any (.slice r.pa r.preds.length r.pcap) r.preds m h p b hs a0 cap0 q w' (hr.rows.below (hw.mono hB) (fun _ h => h)) (fun b hb => Nat.lt_of_lt_of_le hb (Nat.le_trans hB hw.size)) (hq.rows.below (hw.mono hB) (fun _ h => h)) (fun b hb => Nat.lt_of_lt_of_le hb (Nat.le_trans hB hw.size)) hn hl hh)
  have HB0 : Hid (Below W.heap.size W ((W.alloc (.cells #[.int .i64 r.rank, .slice r.pa r.preds.length r.pcap, .string r.target, .int .i64 r.ap, .int .i64 r.as_, .int .i64 r.dp, .int .i64 r.dt, .int .i64 r.mp, .string r.mirror, .int .i64 r.sample] 60)).alloc (.cells #[.string m, .string h, .string p, .slice a0 hs.length cap0, .string b] 67))) := by show Below _ _ _; go_grown
  clear hr hq hh
  go_enter Try.func50, Try.ntmps50
  go_wp2_with fail
  refine (HA.out _ HB0.out).mono ?_
  rintro e w1 ⟨rfl, hb1⟩
  have HB1 := hid (HB0.out.trans (hb1.mono HB0.out.size))
  clear hb1
  go_wp2_with fail
  go_ret
  exact ⟨rfl, HB1.out⟩
set_option maxRecDepth 100000 in
set_option maxHeartbeats 1000000 in
theorem lit_any {B : Nat} (r : Rl) (m h p b : ByteArray) (hs : List Hd) (a0 : Option Addr) (cap0 : Nat) (q : Bool) (X : Nat) (W : World) (hr : r.Wf W B) (hq : ReqV W B m h p b hs a0 cap0) (hB : B ≤ W.heap.size) (hn : hs.length ≤ 1000000) (hl : r.preds.length ≤ 1000000000) (hh : C11.allR m h p hs r.preds = q) (hx : Blk W X #[.string m, .string h, .string p, .slice a0 hs.length cap0, .string b] 67) :
    Calls Try.prog 139 #[.agg #[.int .i64 r.rank, .slice r.pa r.preds.length r.pcap, .string r.target, .int .i64 r.ap, .int .i64 r.as_, .int .i64 r.dp, .int .i64 r.dt, .int .i64 r.mp, .string r.mirror, .int .i64 r.sample], .pointer (some ⟨X, 0, none⟩)] W fun e w' => e = .returned (.bool q) ∧ Below W.heap.size W w' := by
  have HA := hid (fun w' (hw : Below W.heap.size W w') => hits_any r m h p b hs a0 cap0 q w' (hr.below (hw.mono hB)) (hq.below (hw.mono hB)) (Nat.le_trans hB hw.size) hn hl hh)
  have HB0 : Hid (Below W.heap.size W (W.alloc (.cells #[.int .i64 r.rank, .slice r.pa r.preds.length r.pcap, .string r.target, .int .i64 r.ap, .int .i64 r.as_, .int .i64 r.dp, .int .i64 r.dt, .int .i64 r.mp, .string r.mirror, .int .i64 r.sample] 60))) := by show Below _ _ _; go_grown
  have y0 : W.cell? ⟨X, 0, none⟩ = some (.string m) := hx.cell 0
  have y1 : W.cell? ⟨X, 1, none⟩ = some (.string h) := hx.cell 1
  have y2 : W.cell? ⟨X, 2, none⟩ = some (.string p) := hx.cell 2
  have y3 : W.cell? ⟨X, 3, none⟩ = some (.slice a0 hs.length cap0) := hx.cell 3
  have y4 : W.cell? ⟨X, 4, none⟩ = some (.string b) := hx.cell 4
  have hlt := hx.lt
  clear hr hq hh hx
  go_enter Try.func139, Try.ntmps139
  go_wp2_with fail
  refine (HA.out _ HB0.out).mono ?_
  rintro e w1 ⟨rfl, hb1⟩
  have HB1 := hid (HB0.out.trans (hb1.mono HB0.out.size))
  clear hb1
  go_wp2_with fail
  go_ret
  exact ⟨rfl, HB1.out⟩
set_option maxRecDepth 100000 in
set_option maxHeartbeats 1000000 in
theorem index_any {B : Nat} (v : Value) (l : List Rl) (m h p b : ByteArray) (hs : List Hd) (a0 : Option Addr) (cap0 : Nat) (X : Nat) (W : World) (hl : RowsOf (· < B) Rl.enc 10 W v l) (hw : ∀ r ∈ l, r.Wf W B) (hq : ReqV W B m h p b hs a0 cap0) (hB : B ≤ W.heap.size) (hn : hs.length ≤ 1000000) (hll : l.length ≤ 10000000000000) (hps : ∀ r ∈ l, r.preds.length ≤ 1000000000) (hx : Blk W X #[.string m, .string h, .string p, .slice a0 hs.length cap0, .string b] 67) :
    Calls Try.prog 138 #[v, .func (.func 139) #[] #[.pointer (some ⟨X, 0, none⟩)]] W fun e w' => e = .returned (.int .i64 (lookR m h p hs l)) ∧ Below W.heap.size W w' := by
  obtain ⟨a, cap, rfl, hlc, hcm, _, hcell⟩ := hl
  have HC := hid hcell
  have HLT := hid (fun (r : Rl) (q : Bool) (w' : World) (hr : r ∈ l) (hh : C11.allR m h p hs r.preds = q) (hb : Below W.heap.size W w') => lit_any r m h p b hs a0 cap0 q X w' ((hw r hr).below (hb.mono hB)) (hq.below (hb.mono hB)) (Nat.le_trans hB hb.size) hn (hps r hr) hh (hx.later hb))
  clear hcell hw hq hps hx
  go_enter Try.func138, Try.ntmps138
  go_wp2_with fail
  go_loopw [8] (fun i wr => ∃ k : Nat, k ≤ l.length ∧ i = .int .i64 k ∧ Below W.heap.size W wr ∧ ∀ j (_ : j < k) (hj : j < l.length), C11.allR m h p hs l[j].preds = false) (fun i _ => l.length - (intOf i).toNat)
  case atStart => exact ⟨0, Nat.zero_le _, rfl, Below.refl _ _, fun j hj => absurd hj (Nat.not_lt_zero _)⟩
  case round =>
    obtain ⟨k, hk, rfl, hb, hno⟩ := hrel
    have HB := hid hb
    have HN := hid hno
    clear hb hno
    by_cases hlt : k < l.length
    · obtain ⟨bb, off, rfl, hpb, hc⟩ := HC.out.resolve_left (by intro e; rw [e] at hlt; simp at hlt)
      have hbl0 : bb < W.heap.size := Nat.lt_of_lt_of_le hpb hB
      have hbl : bb < wr.heap.size := Nat.lt_of_lt_of_le hbl0 HB.out.size
      obtain ⟨c0, c1, c2, c3, c4, c5, c6, c7, c8, c9⟩ := Rl.cells (fun j u hu => (HB.out.cell (p := ⟨bb, off + k * 10 + j, none⟩) hbl0).trans (hc k hlt j u hu))
      obtain ⟨bq, hbq⟩ : ∃ bq, C11.allR m h p hs l[k].preds = bq := ⟨_, rfl⟩
      have HLit := hid (fun w' (hb : Below W.heap.size W w') => HLT.out l[k] bq w' (List.getElem_mem hlt) hbq hb)
      have HNext : Hid (bq = false → ∀ j (_ : j < k + 1) (hj : j < l.length), C11.allR m h p hs l[j].preds = false) := by
        intro e j hj hjl
        by_cases e2 : j = k
        · subst e2; rw [e] at hbq; exact hbq
        · exact HN.out j (by omega) hjl
      have HHit : Hid (bq = true → lookR m h p hs l = k) := fun e => by
        rw [e] at hbq
        exact look_hit hlt hbq HN.out
      clear hc hbq
      generalize l[k] = y at c0 c1 c2 c3 c4 c5 c6 c7 c8 c9 HLit
      cases bq
      · go_wp2_with fail
        refine (HLit.out _ HB.out).mono ?_
        rintro e w1 ⟨rfl, hb1⟩
        have HB1 := hid (HB.out.trans (hb1.mono HB.out.size))
        clear hb1
        go_wp2_with fail
        go_roundw
        case rel => exact ⟨k + 1, by omega, by go_num, HB1.out, HNext.out (by simp)⟩
        case measure => simp [intOf]; omega
      · go_wp2_with fail
        refine (HLit.out _ HB.out).mono ?_
        rintro e w1 ⟨rfl, hb1⟩
        have HB1 := hid (HB.out.trans (hb1.mono HB.out.size))
        clear hb1
        go_wp2_with fail
        go_ret
        exact ⟨by rw [HHit.out (by simp)]; rfl, HB1.out⟩
    · obtain rfl : k = l.length := by omega
      have hd : Hid (lookR m h p hs l = -1) := hid (look_none (fun j hj => HN.out j hj hj))
      go_wp2_with fail
      go_ret
      exact ⟨by rw [hd.out]; rfl, HB.out⟩
set_option maxRecDepth 100000 in
set_option maxHeartbeats 1000000 in
theorem look_any {B : Nat} (n : Int) (l : List Rl) (a : Option Addr) (cap : Nat) (f : ByteArray) (m h p b : ByteArray) (hs : List Hd) (a0 : Option Addr) (cap0 : Nat) (r : Int) (W : World) (ht : TabV W B l a cap f) (hq : ReqV W B m h p b hs a0 cap0) (hB : B ≤ W.heap.size) (hn : hs.length ≤ 1000000) (hps : ∀ r ∈ l, r.preds.length ≤ 1000000000) (hr : lookR m h p hs l = r) :
    Calls Try.prog 76 #[.agg #[.int .i64 n, .slice a l.length cap, .string f], .agg #[.string m, .string h, .string p, .slice a0 hs.length cap0, .string b]] W fun e w' => e = .returned (.int .i64 r) ∧ Below W.heap.size W w' := by
  have HB0 : Hid (Below W.heap.size W ((W.alloc (.cells #[.int .i64 n, .slice a l.length cap, .string f] 46)).alloc (.cells #[.string m, .string h, .string p, .slice a0 hs.length cap0, .string b] 67))) := by show Below _ _ _; go_grown
  have hB0 := HB0.out
  have HI := hid (index_any (.slice a l.length cap) l m h p b hs a0 cap0 (W.heap.size + 1) ((W.alloc (.cells #[.int .i64 n, .slice a l.length cap, .string f] 46)).alloc (.cells #[.string m, .string h, .string p, .slice a0 hs.length cap0, .string b] 67)) (ht.rows.below (hB0.mono hB) (fun _ h => h)) (fun r hr => (ht.wf r hr).below (hB0.mono hB)) (hq.below (hB0.mono hB)) (Nat.le_trans hB hB0.size) hn (by have := ht.len; omega) hps (Blk.new' _ _ _ (by simp)))
  rw [hr] at HI
  clear ht hq hps hr hB0
  go_enter Try.func76, Try.ntmps76
  go_wp2_with fail
  refine HI.out.mono ?_
  rintro e w1 ⟨rfl, hb1⟩
  have HB1 := hid (HB0.out.trans (hb1.mono HB0.out.size))
  clear hb1
  go_wp2_with fail
  go_ret
  exact ⟨rfl, HB1.out⟩
set_option maxRecDepth 100000 in
set_option maxHeartbeats 1000000 in
theorem rlook_any {B : Nat} (n : Int) (l : List Rl) (a : Option Addr) (cap : Nat) (f : ByteArray) (m h p b : ByteArray) (hs : List Hd) (a0 : Option Addr) (cap0 : Nat) (r : Int) (W : World) (ht : TabV W B l a cap f) (hq : ReqV W B m h p b hs a0 cap0) (hB : B ≤ W.heap.size) (hn : hs.length ≤ 1000000) (hps : ∀ r ∈ l, r.preds.length ≤ 1000000000) (hr : lookR m h p hs l = r) :
    Calls Try.prog 77 #[.agg #[.int .i64 n, .slice a l.length cap, .string f], .agg #[.string m, .string h, .string p, .slice a0 hs.length cap0, .string b]] W fun e w' => e = .returned (.int .i64 r) ∧ Below W.heap.size W w' := by
  have HB0 : Hid (Below W.heap.size W ((W.alloc (.cells #[.int .i64 n, .slice a l.length cap, .string f] 46)).alloc (.cells #[.string m, .string h, .string p, .slice a0 hs.length cap0, .string b] 67))) := by show Below _ _ _; go_grown
  have HLT := hid (fun (r : Rl) (q : Bool) (w' : World) (hr : r ∈ l) (hh : C11.allR m h p hs r.preds = q) (hb : Below W.heap.size W w') => rhits_any r m h p b hs a0 cap0 q w' ((ht.wf r hr).below (hb.mono hB)) (hq.below (hb.mono hB)) (Nat.le_trans hB hb.size) hn (hps r hr) hh)
  have HZ := hid ((Blk.new W #[.int .i64 n, .slice a l.length cap, .string f] 46).alloc (.cells #[.string m, .string h, .string p, .slice a0 hs.length cap0, .string b] 67))
  have HY := hid (Blk.new' (W.alloc (.cells #[.int .i64 n, .slice a l.length cap, .string f] 46)) #[.string m, .string h, .string p, .slice a0 hs.length cap0, .string b] 67 (n := W.heap.size + 1) (by simp))
  obtain ⟨⟨a9, cap9, e9, hlc, hcm, _, hcell⟩, hlen, _, _⟩ := ht
  cases e9
  have HC := hid hcell
  have HR := hid hr
  clear hcell hq hps hr
  go_enter Try.func77, Try.ntmps77
  go_wp2_with fail
  go_loopw [5] (fun i wr => ∃ k : Nat, k ≤ l.length ∧ i = .int .i64 k ∧ Below ((W.alloc (.cells #[.int .i64 n, .slice a l.length cap, .string f] 46)).alloc (.cells #[.string m, .string h, .string p, .slice a0 hs.length cap0, .string b] 67)).heap.size ((W.alloc (.cells #[.int .i64 n, .slice a l.length cap, .string f] 46)).alloc (.cells #[.string m, .string h, .string p, .slice a0 hs.length cap0, .string b] 67)) wr ∧ ∀ j (_ : j < k) (hj : j < l.length), C11.allR m h p hs l[j].preds = false) (fun i _ => l.length - (intOf i).toNat)
  case atStart => exact ⟨0, Nat.zero_le _, rfl, Below.refl _ _, fun j hj => absurd hj (Nat.not_lt_zero _)⟩
  case round =>
    obtain ⟨k, hk, rfl, hb, hno⟩ := hrel
    have HB := hid hb
    have HN := hid hno
    have HW := hid (HB0.out.trans (hb.mono HB0.out.size))
    have hz := HZ.out.later hb
    have hy := HY.out.later hb
    have z1 : wr.cell? ⟨W.heap.size, 1, none⟩ = some (.slice a l.length cap) := hz.cell 1
    have y0 : wr.cell? ⟨W.heap.size + 1, 0, none⟩ = some (.string m) := hy.cell 0
    have y1 : wr.cell? ⟨W.heap.size + 1, 1, none⟩ = some (.string h) := hy.cell 1
    have y2 : wr.cell? ⟨W.heap.size + 1, 2, none⟩ = some (.string p) := hy.cell 2
    have y3 : wr.cell? ⟨W.heap.size + 1, 3, none⟩ = some (.slice a0 hs.length cap0) := hy.cell 3
    have y4 : wr.cell? ⟨W.heap.size + 1, 4, none⟩ = some (.string b) := hy.cell 4
    have hlz := hz.lt
    have hly := hy.lt
    clear hz hy
    clear hb hno
    by_cases hlt : k < l.length
    · obtain ⟨bb, off, rfl, hpb, hc⟩ := HC.out.resolve_left (by intro e; rw [e] at hlt; simp at hlt)
      have hbl0 : bb < W.heap.size := Nat.lt_of_lt_of_le hpb hB
      have hbl : bb < wr.heap.size := Nat.lt_of_lt_of_le hbl0 HW.out.size
      obtain ⟨c0, c1, c2, c3, c4, c5, c6, c7, c8, c9⟩ := Rl.cells (fun j u hu => (HW.out.cell (p := ⟨bb, off + k * 10 + j, none⟩) hbl0).trans (hc k hlt j u hu))
      obtain ⟨bq, hbq⟩ : ∃ bq, C11.allR m h p hs l[k].preds = bq := ⟨_, rfl⟩
      have HLit : Hid (∀ x : BW wr, Calls Try.prog 50 #[.agg #[.int .i64 l[k].rank, .slice l[k].pa l[k].preds.length l[k].pcap, .string l[k].target, .int .i64 l[k].ap, .int .i64 l[k].as_, .int .i64 l[k].dp, .int .i64 l[k].dt, .int .i64 l[k].mp, .string l[k].mirror, .int .i64 l[k].sample], .agg #[.string m, .string h, .string p, .slice a0 hs.length cap0, .string b]] x.val fun e w' => e = .returned (.bool bq) ∧ Below x.val.heap.size x.val w') := hid (fun x => HLT.out l[k] bq x.val (List.getElem_mem hlt) hbq (HW.out.trans (x.prop.mono HW.out.size)))
      have HNext : Hid (bq = false → ∀ j (_ : j < k + 1) (hj : j < l.length), C11.allR m h p hs l[j].preds = false) := by
        intro e j hj hjl
        by_cases e2 : j = k
        · subst e2; rw [e] at hbq; exact hbq
        · exact HN.out j (by omega) hjl
      have HHit : Hid (bq = true → lookR m h p hs l = k) := fun e => by
        rw [e] at hbq
        exact look_hit hlt hbq HN.out
      clear hc hbq
      generalize l[k] = y at c0 c1 c2 c3 c4 c5 c6 c7 c8 c9 HLit
      cases bq
      · go_wp2_with fail
        refine wp_region_bw (by kernel_rfl) (by kernel_rfl) ?_
        repeat (go_big_quiet_step ((go_at_call 50; exact bw_call (HLit.out _))))
        refine wpQuiet_nil ?_
        rintro w2 ⟨⟨_, hbw⟩, rfl⟩
        have HB1 := hid (HB.out.trans (hbw.mono HB.out.size))
        clear hbw
        go_wp2_with fail
        go_roundw
        case rel => exact ⟨k + 1, by omega, by go_num, HB1.out, HNext.out (by simp)⟩
        case measure => simp [intOf]; omega
      · go_wp2_with fail
        refine wp_region_bw (by kernel_rfl) (by kernel_rfl) ?_
        repeat (go_big_quiet_step ((go_at_call 50; exact bw_call (HLit.out _))))
        refine wpQuiet_nil ?_
        rintro w2 ⟨⟨_, hbw⟩, rfl⟩
        have HB1 := hid (HW.out.trans (hbw.mono HW.out.size))
        clear hbw
        go_wp2_with fail
        go_ret
        exact ⟨by rw [← HR.out, HHit.out (by simp)]; rfl, HB1.out⟩
    · obtain rfl : k = l.length := by omega
      have hd : Hid (lookR m h p hs l = -1) := hid (look_none (fun j hj => HN.out j hj hj))
      go_wp2_with fail
      go_ret
      exact ⟨by rw [← HR.out, hd.out]; rfl, HW.out⟩
end C16
end Go.Proofs.Ytmmmaldpalhjeaa
namespace Go.Proofs.Ytmmmaldpalhjeaa
open Go.RowKit Go.Peri
namespace C12
set_option maxRecDepth 100000 in
set_option maxHeartbeats 2000000 in
theorem first_any (v : Value) (l : List Rl) (m h p b : ByteArray) (hs : List Hd) (a0 : Option Addr) (cap0 : Nat) (r : Int) (W : World) (hl : RowsOf (· < W.heap.size) Rl.enc 10 W v l) (hw : ∀ r ∈ l, r.Wf W W.heap.size) (hq : ReqV W W.heap.size m h p b hs a0 cap0) (hn : hs.length ≤ 1000000) (hll : l.length ≤ 10000000000000) (hps : ∀ r ∈ l, r.preds.length ≤ 1000000000) (hr : firstR (fun r => C11.allR m h p hs r.preds) l = r) :
    Calls Try.prog 54 #[v, .agg #[.string m, .string h, .string p, .slice a0 hs.length cap0, .string b]] W fun e w' => e = .returned (.int .i64 r) ∧ Below W.heap.size W w' := by
  obtain ⟨a, cap, rfl, hlc, hcm, _, hcell⟩ := hl
  have HC := hid hcell
  have HR := hid hr
  have HIT := hid (fun (x : Rl) (q : Bool) (w' : World) (hx : x ∈ l) (hh : C11.allR m h p hs x.preds = q) (hb : Below W.heap.size W w') => C16.hits_any x m h p b hs a0 cap0 q w' ((hw x hx).below hb) (hq.below hb) hb.size hn (hps x hx) hh)
  clear hcell hw hq hps hr
  go_enter Try.func54, Try.ntmps54
  go_upto_region 1 with fail
  refine wp_gen ?_
  intro w0 hw0
  have hb0 : Below W.heap.size W w0 := by rw [hw0]; go_grown
  have hk0 : Blk w0 W.heap.size #[.string m, .string h, .string p, .slice a0 hs.length cap0, .string b] 67 := by rw [hw0]; exact Blk.new _ _ _
  clear hw0
  have HB0 := hid hb0
  have HK0 := hid hk0
  have hlt0 := hk0.lt
  clear hb0 hk0
  go_wp2_with fail
  go_loopw [5, 10] (fun best i wr => ∃ k : Nat, k ≤ l.length ∧ i = .int .i64 k ∧ best = .int .i64 (firstI (fun r => C11.allR m h p hs r.preds) l k) ∧ Below w0.heap.size w0 wr) (fun _ i _ => l.length - (intOf i).toNat)
  case atStart => exact ⟨0, Nat.zero_le _, rfl, rfl, Below.refl _ _⟩
  case round =>
    obtain ⟨k, hk, rfl, rfl, hb⟩ := hrel
    have HB := hid hb
    have hws := hb.size
    clear hb
    by_cases hlt : k < l.length
    · obtain ⟨bb, off, rfl, hpb, hc⟩ := HC.out.resolve_left (by intro e; rw [e] at hlt; simp at hlt)
      have HBW : Hid (Below W.heap.size W wr) := HB0.out.trans (HB.out.mono HB0.out.size)
      have hbl : bb < wr.heap.size := Nat.lt_of_lt_of_le hpb HBW.out.size
      obtain ⟨c0, c1, c2, c3, c4, c5, c6, c7, c8, c9⟩ := Rl.cells (fun j u hu => (HBW.out.cell (p := ⟨bb, off + k * 10 + j, none⟩) hpb).trans (hc k hlt j u hu))
      have hkr := HK0.out.later HB.out
      have y0 : wr.cell? ⟨W.heap.size, 0, none⟩ = some (.string m) := hkr.cell 0
      have y1 : wr.cell? ⟨W.heap.size, 1, none⟩ = some (.string h) := hkr.cell 1
      have y2 : wr.cell? ⟨W.heap.size, 2, none⟩ = some (.string p) := hkr.cell 2
      have y3 : wr.cell? ⟨W.heap.size, 3, none⟩ = some (.slice a0 hs.length cap0) := hkr.cell 3
      have y4 : wr.cell? ⟨W.heap.size, 4, none⟩ = some (.string b) := hkr.cell 4
      have hltq := hkr.lt
      clear hkr
      have HFN := hid (firstI_neg (fun r => C11.allR m h p hs r.preds) l k hlt)
      have HFP := hid (fun n hn he => firstI_pos (fun r => C11.allR m h p hs r.preds) l k n hlt hn he)
      obtain ⟨bq, hbq⟩ : ∃ bq, C11.allR m h p hs l[k].preds = bq := ⟨_, rfl⟩
      have HHC := hid (fun w' (hb : Below W.heap.size W w') => HIT.out l[k] bq w' (List.getElem_mem hlt) hbq hb)
      have hbn := firstI_lt (fun r => C11.allR m h p hs r.preds) l k
      have HIX : Hid (∀ n (hn : n < l.length), wr.cell? ⟨bb, off + n * 10, none⟩ = some (.int .i64 l[n].rank)) := hid (fun n hn => (Rl.cells (fun j u hu => (HBW.out.cell (p := ⟨bb, off + n * 10 + j, none⟩) hpb).trans (hc n hn j u hu))).1)
      simp only [hbq] at HFN HFP
      obtain ⟨bst, hbst⟩ : ∃ z, firstI (fun r => C11.allR m h p hs r.preds) l k = z := ⟨_, rfl⟩
      obtain ⟨nxt, hnxt⟩ : ∃ z, firstI (fun r => C11.allR m h p hs r.preds) l (k + 1) = z := ⟨_, rfl⟩
      rw [hnxt, hbst] at HFN
      rw [hbst] at hbn
      rw [hnxt] at HFP
      have HNX := hid hnxt
      have HBS := hid hbst
      rw [hbst]
      have i1 : (0 : Int) ≤ (k : Int) := by omega
      have i2 : (k : Int) < (l.length : Int) := by omega
      clear hbq hnxt hc
      rw [hbst] at HFP
      clear hbst
      generalize l[k] = x at c0 c1 c2 c3 c4 c5 c6 c7 c8 c9 HHC HFP
      by_cases hb0 : bst < 0
      · have HV0 := hid (HFN.out hb0)
        cases bq
        · have HV : Hid (nxt = bst) := hid (by rw [HV0.out]; rfl)
          clear HV0 HFN HFP HIX
          go_upto_region 5 with fail
          refine wp_gen ?_
          intro w1 hw1
          have hb1 : Below wr.heap.size wr w1 := by rw [hw1]; go_grown
          have hx1 : Blk w1 wr.heap.size #[.int .i64 x.rank, .slice x.pa x.preds.length x.pcap, .string x.target, .int .i64 x.ap, .int .i64 x.as_, .int .i64 x.dp, .int .i64 x.dt, .int .i64 x.mp, .string x.mirror, .int .i64 x.sample] 60 := by rw [hw1]; exact Blk.new _ _ _
          have b0 : w1.cell? ⟨wr.heap.size, 0, none⟩ = some (.int .i64 x.rank) := hx1.cell 0
          have b1 : w1.cell? ⟨wr.heap.size, 1, none⟩ = some (.slice x.pa x.preds.length x.pcap) := hx1.cell 1
          have b2 : w1.cell? ⟨wr.heap.size, 2, none⟩ = some (.string x.target) := hx1.cell 2
          have b3 : w1.cell? ⟨wr.heap.size, 3, none⟩ = some (.int .i64 x.ap) := hx1.cell 3
          have b4 : w1.cell? ⟨wr.heap.size, 4, none⟩ = some (.int .i64 x.as_) := hx1.cell 4
          have b5 : w1.cell? ⟨wr.heap.size, 5, none⟩ = some (.int .i64 x.dp) := hx1.cell 5
          have b6 : w1.cell? ⟨wr.heap.size, 6, none⟩ = some (.int .i64 x.dt) := hx1.cell 6
          have b7 : w1.cell? ⟨wr.heap.size, 7, none⟩ = some (.int .i64 x.mp) := hx1.cell 7
          have b8 : w1.cell? ⟨wr.heap.size, 8, none⟩ = some (.string x.mirror) := hx1.cell 8
          have b9 : w1.cell? ⟨wr.heap.size, 9, none⟩ = some (.int .i64 x.sample) := hx1.cell 9
          have hlx := hx1.lt
          have HB1 := hid hb1
          have z0 := (hb1.cell (p := ⟨W.heap.size, 0, none⟩) hltq).trans y0
          have z1 := (hb1.cell (p := ⟨W.heap.size, 1, none⟩) hltq).trans y1
          have z2 := (hb1.cell (p := ⟨W.heap.size, 2, none⟩) hltq).trans y2
          have z3 := (hb1.cell (p := ⟨W.heap.size, 3, none⟩) hltq).trans y3
          have z4 := (hb1.cell (p := ⟨W.heap.size, 4, none⟩) hltq).trans y4
          have hltz : W.heap.size < w1.heap.size := Nat.lt_of_lt_of_le hltq hb1.size
          have hblz : bb < w1.heap.size := Nat.lt_of_lt_of_le hbl hb1.size

          clear hx1 hw1 hb1 c0 c1 c2 c3 c4 c5 c6 c7 c8 c9 y0 y1 y2 y3 y4
          have X : Hid (∀ z : BW w1, Calls Try.prog 49 #[.agg #[.int .i64 x.rank, .slice x.pa x.preds.length x.pcap, .string x.target, .int .i64 x.ap, .int .i64 x.as_, .int .i64 x.dp, .int .i64 x.dt, .int .i64 x.mp, .string x.mirror, .int .i64 x.sample], .agg #[.string m, .string h, .string p, .slice a0 hs.length cap0, .string b]] z.val fun e w' => e = .returned (.bool false) ∧ Below z.val.heap.size z.val w') := hid (fun z => HHC.out z.val ((HBW.out.trans (HB1.out.mono HBW.out.size)).trans (z.prop.mono (HBW.out.trans (HB1.out.mono HBW.out.size)).size)))
          go_wp2_with fail
          refine wp_region_bw (by kernel_rfl) (by kernel_rfl) ?_
          repeat (go_big_quiet_step ((go_at_call 49; exact bw_call (X.out _))))
          refine wpQuiet_nil ?_
          rintro w2 ⟨⟨_, hb2⟩, rfl⟩
          have HB2 : Hid (Below w0.heap.size w0 w2) := HB.out.trans ((HB1.out.trans (hb2.mono HB1.out.size)).mono HB.out.size)
          clear hb2
          go_wp2_with fail
          go_roundw
          case rel => exact ⟨k + 1, by omega, by go_num, by rw [HNX.out, HV.out], HB2.out⟩
          case measure => simp [intOf]; omega
        · have HV : Hid (nxt = k) := hid (by rw [HV0.out]; rfl)
          clear HV0 HFN HFP HIX
          go_upto_region 5 with fail
          refine wp_gen ?_
          intro w1 hw1
          have hb1 : Below wr.heap.size wr w1 := by rw [hw1]; go_grown
          have hx1 : Blk w1 wr.heap.size #[.int .i64 x.rank, .slice x.pa x.preds.length x.pcap, .string x.target, .int .i64 x.ap, .int .i64 x.as_, .int .i64 x.dp, .int .i64 x.dt, .int .i64 x.mp, .string x.mirror, .int .i64 x.sample] 60 := by rw [hw1]; exact Blk.new _ _ _
          have b0 : w1.cell? ⟨wr.heap.size, 0, none⟩ = some (.int .i64 x.rank) := hx1.cell 0
          have b1 : w1.cell? ⟨wr.heap.size, 1, none⟩ = some (.slice x.pa x.preds.length x.pcap) := hx1.cell 1
          have b2 : w1.cell? ⟨wr.heap.size, 2, none⟩ = some (.string x.target) := hx1.cell 2
          have b3 : w1.cell? ⟨wr.heap.size, 3, none⟩ = some (.int .i64 x.ap) := hx1.cell 3
          have b4 : w1.cell? ⟨wr.heap.size, 4, none⟩ = some (.int .i64 x.as_) := hx1.cell 4
          have b5 : w1.cell? ⟨wr.heap.size, 5, none⟩ = some (.int .i64 x.dp) := hx1.cell 5
          have b6 : w1.cell? ⟨wr.heap.size, 6, none⟩ = some (.int .i64 x.dt) := hx1.cell 6
          have b7 : w1.cell? ⟨wr.heap.size, 7, none⟩ = some (.int .i64 x.mp) := hx1.cell 7
          have b8 : w1.cell? ⟨wr.heap.size, 8, none⟩ = some (.string x.mirror) := hx1.cell 8
          have b9 : w1.cell? ⟨wr.heap.size, 9, none⟩ = some (.int .i64 x.sample) := hx1.cell 9
          have hlx := hx1.lt
          have HB1 := hid hb1
          have z0 := (hb1.cell (p := ⟨W.heap.size, 0, none⟩) hltq).trans y0
          have z1 := (hb1.cell (p := ⟨W.heap.size, 1, none⟩) hltq).trans y1
          have z2 := (hb1.cell (p := ⟨W.heap.size, 2, none⟩) hltq).trans y2
          have z3 := (hb1.cell (p := ⟨W.heap.size, 3, none⟩) hltq).trans y3
          have z4 := (hb1.cell (p := ⟨W.heap.size, 4, none⟩) hltq).trans y4
          have hltz : W.heap.size < w1.heap.size := Nat.lt_of_lt_of_le hltq hb1.size
          have hblz : bb < w1.heap.size := Nat.lt_of_lt_of_le hbl hb1.size

          clear hx1 hw1 hb1 c0 c1 c2 c3 c4 c5 c6 c7 c8 c9 y0 y1 y2 y3 y4
          have X : Hid (∀ z : BW w1, Calls Try.prog 49 #[.agg #[.int .i64 x.rank, .slice x.pa x.preds.length x.pcap, .string x.target, .int .i64 x.ap, .int .i64 x.as_, .int .i64 x.dp, .int .i64 x.dt, .int .i64 x.mp, .string x.mirror, .int .i64 x.sample], .agg #[.string m, .string h, .string p, .slice a0 hs.length cap0, .string b]] z.val fun e w' => e = .returned (.bool true) ∧ Below z.val.heap.size z.val w') := hid (fun z => HHC.out z.val ((HBW.out.trans (HB1.out.mono HBW.out.size)).trans (z.prop.mono (HBW.out.trans (HB1.out.mono HBW.out.size)).size)))
          go_wp2_with fail
          refine wp_region_bw (by kernel_rfl) (by kernel_rfl) ?_
          repeat (go_big_quiet_step ((go_at_call 49; exact bw_call (X.out _))))
          refine wpQuiet_nil ?_
          rintro w2 ⟨⟨_, hb2⟩, rfl⟩
          have HB2 : Hid (Below w0.heap.size w0 w2) := HB.out.trans ((HB1.out.trans (hb2.mono HB1.out.size)).mono HB.out.size)
          clear hb2
          go_wp2_with fail
          go_roundw
          case rel => exact ⟨k + 1, by omega, by go_num, by rw [HNX.out, HV.out], HB2.out⟩
          case measure => simp [intOf]; omega
      · obtain ⟨n, rfl⟩ : ∃ n : Nat, bst = n := ⟨bst.toNat, by omega⟩
        have hnl : n < l.length := by omega
        have f0 := HIX.out n hnl
        have HV0 := hid (HFP.out n hnl rfl)
        have j1 : (0 : Int) ≤ (n : Int) := by omega
        have j0 : decide ((n : Int) < 0) = false := decide_eq_false (by omega)
        have j3 : ¬ (n : Int) < 0 := by omega
        have j2 : (n : Int) < (l.length : Int) := by omega
        generalize l[n].rank = rn at f0 HV0
        clear HFN HFP HIX hb0
        cases bq
        · have HV : Hid (nxt = n) := hid (by rw [HV0.out]; simp)
          clear HV0
          by_cases hrk : rn < x.rank
          · go_upto_region 5 with fail
            refine wp_gen ?_
            intro w1 hw1
            have hb1 : Below wr.heap.size wr w1 := by rw [hw1]; go_grown
            have hx1 : Blk w1 wr.heap.size #[.int .i64 x.rank, .slice x.pa x.preds.length x.pcap, .string x.target, .int .i64 x.ap, .int .i64 x.as_, .int .i64 x.dp, .int .i64 x.dt, .int .i64 x.mp, .string x.mirror, .int .i64 x.sample] 60 := by rw [hw1]; exact Blk.new _ _ _
            have b0 : w1.cell? ⟨wr.heap.size, 0, none⟩ = some (.int .i64 x.rank) := hx1.cell 0
            have b1 : w1.cell? ⟨wr.heap.size, 1, none⟩ = some (.slice x.pa x.preds.length x.pcap) := hx1.cell 1
            have b2 : w1.cell? ⟨wr.heap.size, 2, none⟩ = some (.string x.target) := hx1.cell 2
            have b3 : w1.cell? ⟨wr.heap.size, 3, none⟩ = some (.int .i64 x.ap) := hx1.cell 3
            have b4 : w1.cell? ⟨wr.heap.size, 4, none⟩ = some (.int .i64 x.as_) := hx1.cell 4
            have b5 : w1.cell? ⟨wr.heap.size, 5, none⟩ = some (.int .i64 x.dp) := hx1.cell 5
            have b6 : w1.cell? ⟨wr.heap.size, 6, none⟩ = some (.int .i64 x.dt) := hx1.cell 6
            have b7 : w1.cell? ⟨wr.heap.size, 7, none⟩ = some (.int .i64 x.mp) := hx1.cell 7
            have b8 : w1.cell? ⟨wr.heap.size, 8, none⟩ = some (.string x.mirror) := hx1.cell 8
            have b9 : w1.cell? ⟨wr.heap.size, 9, none⟩ = some (.int .i64 x.sample) := hx1.cell 9
            have hlx := hx1.lt
            have HB1 := hid hb1
            have z0 := (hb1.cell (p := ⟨W.heap.size, 0, none⟩) hltq).trans y0
            have z1 := (hb1.cell (p := ⟨W.heap.size, 1, none⟩) hltq).trans y1
            have z2 := (hb1.cell (p := ⟨W.heap.size, 2, none⟩) hltq).trans y2
            have z3 := (hb1.cell (p := ⟨W.heap.size, 3, none⟩) hltq).trans y3
            have z4 := (hb1.cell (p := ⟨W.heap.size, 4, none⟩) hltq).trans y4
            have hltz : W.heap.size < w1.heap.size := Nat.lt_of_lt_of_le hltq hb1.size
            have hblz : bb < w1.heap.size := Nat.lt_of_lt_of_le hbl hb1.size
            have fz := (hb1.cell (p := ⟨bb, off + n * 10, none⟩) hbl).trans f0
            clear f0
            clear hx1 hw1 hb1 c0 c1 c2 c3 c4 c5 c6 c7 c8 c9 y0 y1 y2 y3 y4
            have X : Hid (∀ z : BW w1, Calls Try.prog 49 #[.agg #[.int .i64 x.rank, .slice x.pa x.preds.length x.pcap, .string x.target, .int .i64 x.ap, .int .i64 x.as_, .int .i64 x.dp, .int .i64 x.dt, .int .i64 x.mp, .string x.mirror, .int .i64 x.sample], .agg #[.string m, .string h, .string p, .slice a0 hs.length cap0, .string b]] z.val fun e w' => e = .returned (.bool false) ∧ Below z.val.heap.size z.val w') := hid (fun z => HHC.out z.val ((HBW.out.trans (HB1.out.mono HBW.out.size)).trans (z.prop.mono (HBW.out.trans (HB1.out.mono HBW.out.size)).size)))
            go_wp2_with fail
            refine wp_region_bw (by kernel_rfl) (by kernel_rfl) ?_
            repeat (go_big_quiet_step ((go_at_call 49; exact bw_call (X.out _))))
            refine wpQuiet_nil ?_
            rintro w2 ⟨⟨_, hb2⟩, rfl⟩
            have HB2 : Hid (Below w0.heap.size w0 w2) := HB.out.trans ((HB1.out.trans (hb2.mono HB1.out.size)).mono HB.out.size)
            clear hb2
            go_wp2_with fail
            go_roundw
            case rel => exact ⟨k + 1, by omega, by go_num, by rw [HNX.out, HV.out], HB2.out⟩
            case measure => simp [intOf]; omega
          · have hrd : decide (rn < x.rank) = false := decide_eq_false hrk
            go_upto_region 5 with fail
            refine wp_gen ?_
            intro w1 hw1
            have hb1 : Below wr.heap.size wr w1 := by rw [hw1]; go_grown
            have hx1 : Blk w1 wr.heap.size #[.int .i64 x.rank, .slice x.pa x.preds.length x.pcap, .string x.target, .int .i64 x.ap, .int .i64 x.as_, .int .i64 x.dp, .int .i64 x.dt, .int .i64 x.mp, .string x.mirror, .int .i64 x.sample] 60 := by rw [hw1]; exact Blk.new _ _ _
            have b0 : w1.cell? ⟨wr.heap.size, 0, none⟩ = some (.int .i64 x.rank) := hx1.cell 0
            have b1 : w1.cell? ⟨wr.heap.size, 1, none⟩ = some (.slice x.pa x.preds.length x.pcap) := hx1.cell 1
            have b2 : w1.cell? ⟨wr.heap.size, 2, none⟩ = some (.string x.target) := hx1.cell 2
            have b3 : w1.cell? ⟨wr.heap.size, 3, none⟩ = some (.int .i64 x.ap) := hx1.cell 3
            have b4 : w1.cell? ⟨wr.heap.size, 4, none⟩ = some (.int .i64 x.as_) := hx1.cell 4
            have b5 : w1.cell? ⟨wr.heap.size, 5, none⟩ = some (.int .i64 x.dp) := hx1.cell 5
            have b6 : w1.cell? ⟨wr.heap.size, 6, none⟩ = some (.int .i64 x.dt) := hx1.cell 6
            have b7 : w1.cell? ⟨wr.heap.size, 7, none⟩ = some (.int .i64 x.mp) := hx1.cell 7
            have b8 : w1.cell? ⟨wr.heap.size, 8, none⟩ = some (.string x.mirror) := hx1.cell 8
            have b9 : w1.cell? ⟨wr.heap.size, 9, none⟩ = some (.int .i64 x.sample) := hx1.cell 9
            have hlx := hx1.lt
            have HB1 := hid hb1
            have z0 := (hb1.cell (p := ⟨W.heap.size, 0, none⟩) hltq).trans y0
            have z1 := (hb1.cell (p := ⟨W.heap.size, 1, none⟩) hltq).trans y1
            have z2 := (hb1.cell (p := ⟨W.heap.size, 2, none⟩) hltq).trans y2
            have z3 := (hb1.cell (p := ⟨W.heap.size, 3, none⟩) hltq).trans y3
            have z4 := (hb1.cell (p := ⟨W.heap.size, 4, none⟩) hltq).trans y4
            have hltz : W.heap.size < w1.heap.size := Nat.lt_of_lt_of_le hltq hb1.size
            have hblz : bb < w1.heap.size := Nat.lt_of_lt_of_le hbl hb1.size
            have fz := (hb1.cell (p := ⟨bb, off + n * 10, none⟩) hbl).trans f0
            clear f0
            clear hx1 hw1 hb1 c0 c1 c2 c3 c4 c5 c6 c7 c8 c9 y0 y1 y2 y3 y4
            have X : Hid (∀ z : BW w1, Calls Try.prog 49 #[.agg #[.int .i64 x.rank, .slice x.pa x.preds.length x.pcap, .string x.target, .int .i64 x.ap, .int .i64 x.as_, .int .i64 x.dp, .int .i64 x.dt, .int .i64 x.mp, .string x.mirror, .int .i64 x.sample], .agg #[.string m, .string h, .string p, .slice a0 hs.length cap0, .string b]] z.val fun e w' => e = .returned (.bool false) ∧ Below z.val.heap.size z.val w') := hid (fun z => HHC.out z.val ((HBW.out.trans (HB1.out.mono HBW.out.size)).trans (z.prop.mono (HBW.out.trans (HB1.out.mono HBW.out.size)).size)))
            go_wp2_with fail
            refine wp_region_bw (by kernel_rfl) (by kernel_rfl) ?_
            repeat (go_big_quiet_step ((go_at_call 49; exact bw_call (X.out _))))
            refine wpQuiet_nil ?_
            rintro w2 ⟨⟨_, hb2⟩, rfl⟩
            have HB2 : Hid (Below w0.heap.size w0 w2) := HB.out.trans ((HB1.out.trans (hb2.mono HB1.out.size)).mono HB.out.size)
            clear hb2
            go_wp2_with fail
            go_roundw
            case rel => exact ⟨k + 1, by omega, by go_num, by rw [HNX.out, HV.out], HB2.out⟩
            case measure => simp [intOf]; omega
        · by_cases hrk : rn < x.rank
          · have HV : Hid (nxt = k) := hid (by rw [HV0.out]; simp [hrk])
            clear HV0
            go_upto_region 5 with fail
            refine wp_gen ?_
            intro w1 hw1
            have hb1 : Below wr.heap.size wr w1 := by rw [hw1]; go_grown
            have hx1 : Blk w1 wr.heap.size #[.int .i64 x.rank, .slice x.pa x.preds.length x.pcap, .string x.target, .int .i64 x.ap, .int .i64 x.as_, .int .i64 x.dp, .int .i64 x.dt, .int .i64 x.mp, .string x.mirror, .int .i64 x.sample] 60 := by rw [hw1]; exact Blk.new _ _ _
            have b0 : w1.cell? ⟨wr.heap.size, 0, none⟩ = some (.int .i64 x.rank) := hx1.cell 0
            have b1 : w1.cell? ⟨wr.heap.size, 1, none⟩ = some (.slice x.pa x.preds.length x.pcap) := hx1.cell 1
            have b2 : w1.cell? ⟨wr.heap.size, 2, none⟩ = some (.string x.target) := hx1.cell 2
            have b3 : w1.cell? ⟨wr.heap.size, 3, none⟩ = some (.int .i64 x.ap) := hx1.cell 3
            have b4 : w1.cell? ⟨wr.heap.size, 4, none⟩ = some (.int .i64 x.as_) := hx1.cell 4
            have b5 : w1.cell? ⟨wr.heap.size, 5, none⟩ = some (.int .i64 x.dp) := hx1.cell 5
            have b6 : w1.cell? ⟨wr.heap.size, 6, none⟩ = some (.int .i64 x.dt) := hx1.cell 6
            have b7 : w1.cell? ⟨wr.heap.size, 7, none⟩ = some (.int .i64 x.mp) := hx1.cell 7
            have b8 : w1.cell? ⟨wr.heap.size, 8, none⟩ = some (.string x.mirror) := hx1.cell 8
            have b9 : w1.cell? ⟨wr.heap.size, 9, none⟩ = some (.int .i64 x.sample) := hx1.cell 9
            have hlx := hx1.lt
            have HB1 := hid hb1
            have z0 := (hb1.cell (p := ⟨W.heap.size, 0, none⟩) hltq).trans y0
            have z1 := (hb1.cell (p := ⟨W.heap.size, 1, none⟩) hltq).trans y1
            have z2 := (hb1.cell (p := ⟨W.heap.size, 2, none⟩) hltq).trans y2
            have z3 := (hb1.cell (p := ⟨W.heap.size, 3, none⟩) hltq).trans y3
            have z4 := (hb1.cell (p := ⟨W.heap.size, 4, none⟩) hltq).trans y4
            have hltz : W.heap.size < w1.heap.size := Nat.lt_of_lt_of_le hltq hb1.size
            have hblz : bb < w1.heap.size := Nat.lt_of_lt_of_le hbl hb1.size
            have fz := (hb1.cell (p := ⟨bb, off + n * 10, none⟩) hbl).trans f0
            clear f0
            clear hx1 hw1 hb1 c0 c1 c2 c3 c4 c5 c6 c7 c8 c9 y0 y1 y2 y3 y4
            have X : Hid (∀ z : BW w1, Calls Try.prog 49 #[.agg #[.int .i64 x.rank, .slice x.pa x.preds.length x.pcap, .string x.target, .int .i64 x.ap, .int .i64 x.as_, .int .i64 x.dp, .int .i64 x.dt, .int .i64 x.mp, .string x.mirror, .int .i64 x.sample], .agg #[.string m, .string h, .string p, .slice a0 hs.length cap0, .string b]] z.val fun e w' => e = .returned (.bool true) ∧ Below z.val.heap.size z.val w') := hid (fun z => HHC.out z.val ((HBW.out.trans (HB1.out.mono HBW.out.size)).trans (z.prop.mono (HBW.out.trans (HB1.out.mono HBW.out.size)).size)))
            go_wp2_with fail
            refine wp_region_bw (by kernel_rfl) (by kernel_rfl) ?_
            repeat (go_big_quiet_step ((go_at_call 49; exact bw_call (X.out _))))
            refine wpQuiet_nil ?_
            rintro w2 ⟨⟨_, hb2⟩, rfl⟩
            have HB2 : Hid (Below w0.heap.size w0 w2) := HB.out.trans ((HB1.out.trans (hb2.mono HB1.out.size)).mono HB.out.size)
            clear hb2
            go_wp2_with fail
            go_roundw
            case rel => exact ⟨k + 1, by omega, by go_num, by rw [HNX.out, HV.out], HB2.out⟩
            case measure => simp [intOf]; omega
          · have HV : Hid (nxt = n) := hid (by rw [HV0.out]; simp [hrk])
            have hrd : decide (rn < x.rank) = false := decide_eq_false hrk
            clear HV0
            go_upto_region 5 with fail
            refine wp_gen ?_
            intro w1 hw1
            have hb1 : Below wr.heap.size wr w1 := by rw [hw1]; go_grown
            have hx1 : Blk w1 wr.heap.size #[.int .i64 x.rank, .slice x.pa x.preds.length x.pcap, .string x.target, .int .i64 x.ap, .int .i64 x.as_, .int .i64 x.dp, .int .i64 x.dt, .int .i64 x.mp, .string x.mirror, .int .i64 x.sample] 60 := by rw [hw1]; exact Blk.new _ _ _
            have b0 : w1.cell? ⟨wr.heap.size, 0, none⟩ = some (.int .i64 x.rank) := hx1.cell 0
            have b1 : w1.cell? ⟨wr.heap.size, 1, none⟩ = some (.slice x.pa x.preds.length x.pcap) := hx1.cell 1
            have b2 : w1.cell? ⟨wr.heap.size, 2, none⟩ = some (.string x.target) := hx1.cell 2
            have b3 : w1.cell? ⟨wr.heap.size, 3, none⟩ = some (.int .i64 x.ap) := hx1.cell 3
            have b4 : w1.cell? ⟨wr.heap.size, 4, none⟩ = some (.int .i64 x.as_) := hx1.cell 4
            have b5 : w1.cell? ⟨wr.heap.size, 5, none⟩ = some (.int .i64 x.dp) := hx1.cell 5
            have b6 : w1.cell? ⟨wr.heap.size, 6, none⟩ = some (.int .i64 x.dt) := hx1.cell 6
            have b7 : w1.cell? ⟨wr.heap.size, 7, none⟩ = some (.int .i64 x.mp) := hx1.cell 7
            have b8 : w1.cell? ⟨wr.heap.size, 8, none⟩ = some (.string x.mirror) := hx1.cell 8
            have b9 : w1.cell? ⟨wr.heap.size, 9, none⟩ = some (.int .i64 x.sample) := hx1.cell 9
            have hlx := hx1.lt
            have HB1 := hid hb1
            have z0 := (hb1.cell (p := ⟨W.heap.size, 0, none⟩) hltq).trans y0
            have z1 := (hb1.cell (p := ⟨W.heap.size, 1, none⟩) hltq).trans y1
            have z2 := (hb1.cell (p := ⟨W.heap.size, 2, none⟩) hltq).trans y2
            have z3 := (hb1.cell (p := ⟨W.heap.size, 3, none⟩) hltq).trans y3
            have z4 := (hb1.cell (p := ⟨W.heap.size, 4, none⟩) hltq).trans y4
            have hltz : W.heap.size < w1.heap.size := Nat.lt_of_lt_of_le hltq hb1.size
            have hblz : bb < w1.heap.size := Nat.lt_of_lt_of_le hbl hb1.size
            have fz := (hb1.cell (p := ⟨bb, off + n * 10, none⟩) hbl).trans f0
            clear f0
            clear hx1 hw1 hb1 c0 c1 c2 c3 c4 c5 c6 c7 c8 c9 y0 y1 y2 y3 y4
            have X : Hid (∀ z : BW w1, Calls Try.prog 49 #[.agg #[.int .i64 x.rank, .slice x.pa x.preds.length x.pcap, .string x.target, .int .i64 x.ap, .int .i64 x.as_, .int .i64 x.dp, .int .i64 x.dt, .int .i64 x.mp, .string x.mirror, .int .i64 x.sample], .agg #[.string m, .string h, .string p, .slice a0 hs.length cap0, .string b]] z.val fun e w' => e = .returned (.bool true) ∧ Below z.val.heap.size z.val w') := hid (fun z => HHC.out z.val ((HBW.out.trans (HB1.out.mono HBW.out.size)).trans (z.prop.mono (HBW.out.trans (HB1.out.mono HBW.out.size)).size)))
            go_wp2_with fail
            refine wp_region_bw (by kernel_rfl) (by kernel_rfl) ?_
            repeat (go_big_quiet_step ((go_at_call 49; exact bw_call (X.out _))))
            refine wpQuiet_nil ?_
            rintro w2 ⟨⟨_, hb2⟩, rfl⟩
            have HB2 : Hid (Below w0.heap.size w0 w2) := HB.out.trans ((HB1.out.trans (hb2.mono HB1.out.size)).mono HB.out.size)
            clear hb2
            go_wp2_with fail
            go_roundw
            case rel => exact ⟨k + 1, by omega, by go_num, by rw [HNX.out, HV.out], HB2.out⟩
            case measure => simp [intOf]; omega
    · obtain rfl : k = l.length := by omega
      have HF : Hid (firstI (fun r => C11.allR m h p hs r.preds) l l.length = r) := hid HR.out
      rw [HF.out]
      go_wp2_with fail
      go_ret
      exact ⟨rfl, HB0.out.trans (HB.out.mono HB0.out.size)⟩
end C12
end Go.Proofs.Ytmmmaldpalhjeaa
namespace Go.Proofs.Ytmmmaldpalhjeaa
open Go.RowKit Go.Peri
namespace C12
def kA : Rl := ⟨1, none, 0, [], ⟨#[97]⟩, 0, 0, 0, 0, 0, ByteArray.empty, 0⟩
def kB (n : Nat) : Rl := ⟨5, some ⟨n, 0, none⟩, 1, [⟨2, ByteArray.empty, ⟨#[120]⟩⟩], ⟨#[98]⟩, 0, 0, 0, 0, 0, ByteArray.empty, 0⟩
def kC : Rl := ⟨5, none, 0, [], ⟨#[99]⟩, 0, 0, 0, 0, 0, ByteArray.empty, 0⟩
def kL (n : Nat) : List Rl := [kA, kB n, kC]
theorem kA_wf (w : World) (B : Nat) : kA.Wf w B := ⟨RowsOf.nil _ _ _ _, by decide, by simp [kA], by simp [kA, Sp.I64], by decide, by decide⟩
theorem kC_wf (w : World) (B : Nat) : kC.Wf w B := ⟨RowsOf.nil _ _ _ _, by decide, by simp [kC], by simp [kC, Sp.I64], by decide, by decide⟩
theorem kB_wf {w : World} {n B : Nat} (h : Blk w n #[.int .i64 2, .string ByteArray.empty, .string ⟨#[120]⟩] 146) (hB : n < B) : (kB n).Wf w B :=
  ⟨(rows_of_blk (l := [⟨2, ByteArray.empty, ⟨#[120]⟩⟩]) (enc := Prd.enc) (k := 3) (fun _ => rfl) h rfl (by decide)).imp (fun b hb => by rw [hb]; exact hB), by show 1 * 40 ≤ 140737488351232; decide, fun x hx => by
    have : x = ⟨2, ByteArray.empty, ⟨#[120]⟩⟩ := by simpa [kB] using hx
    subst this
    exact ⟨by simp [Sp.I64], by decide, by decide⟩, by simp [kB, Sp.I64], by show 1 ≤ 140737488351232; decide, by show 0 ≤ 140737488351232; decide⟩
theorem kReq (w : World) (h : ByteArray) (hh : h.size ≤ 140737488351232) : ReqV w w.heap.size ByteArray.empty h ByteArray.empty ByteArray.empty [] none 0 := ⟨RowsOf.nil _ _ _ _, by decide, by simp, by decide, hh, by decide, by decide⟩
theorem kL_psl (n : Nat) : ∀ r ∈ kL n, r.preds.length ≤ 1000000 := by
  intro r hr
  simp only [kL, List.mem_cons, List.not_mem_nil, or_false] at hr
  rcases hr with rfl | rfl | rfl
  · decide
  · show 1 ≤ 1000000; decide
  · decide
/-- The fixed rules, wherever memory has grown. -/
structure KeepL (W w' : World) : Prop where
  rows : RowsOf (· < w'.heap.size) Rl.enc 10 w' (.slice (some ⟨W.heap.size + 1, 0, none⟩) 3 3) (kL W.heap.size)
  wf : ∀ r ∈ kL W.heap.size, r.Wf w' w'.heap.size
theorem keepL {W w1 w' : World} (h0 : Blk w1 W.heap.size #[.int .i64 2, .string ByteArray.empty, .string ⟨#[120]⟩] 146) (h1 : Blk w1 (W.heap.size + 1) #[.int .i64 1, .slice none 0 0, .string ⟨#[97]⟩, .int .i64 0, .int .i64 0, .int .i64 0, .int .i64 0, .int .i64 0, .string ByteArray.empty, .int .i64 0, .int .i64 5, .slice (some ⟨W.heap.size, 0, none⟩) 1 1, .string ⟨#[98]⟩, .int .i64 0, .int .i64 0, .int .i64 0, .int .i64 0, .int .i64 0, .string ByteArray.empty, .int .i64 0, .int .i64 5, .slice none 0 0, .string ⟨#[99]⟩, .int .i64 0, .int .i64 0, .int .i64 0, .int .i64 0, .int .i64 0, .string ByteArray.empty, .int .i64 0] 60) (hb : Below w1.heap.size w1 w') : KeepL W w' := by
  have k0 := h0.later hb
  have k1 := h1.later hb
  refine ⟨(rows_of_blk (l := kL W.heap.size) Rl.enc_length k1 rfl (by show 3 ≤ maxLen; decide)).imp (fun b hb => by rw [hb]; exact k1.lt), fun r hr => ?_⟩
  simp only [kL, List.mem_cons, List.not_mem_nil, or_false] at hr
  rcases hr with rfl | rfl | rfl
  · exact kA_wf _ _
  · exact kB_wf k0 k0.lt
  · exact kC_wf _ _
def Known : Prop := ∀ W : World, Calls Try.prog 44 #[] W fun e w' => e = .returned (.bool true) ∧ Below W.heap.size W w'
set_option maxRecDepth 100000 in
set_option maxHeartbeats 4000000 in
theorem known_any : Known := by
  intro W
  go_enter Try.func44, Try.ntmps44
  go_upto_region 2 with fail
  refine wp_gen ?_
  intro w1 hw1
  have hb1 : Below W.heap.size W w1 := by rw [hw1]; go_grown
  have h0 : Blk w1 W.heap.size #[.int .i64 2, .string ByteArray.empty, .string ⟨#[120]⟩] 146 := by rw [hw1]; exact (Blk.new _ _ _).alloc _
  have h1 : Blk w1 (W.heap.size + 1) #[.int .i64 1, .slice none 0 0, .string ⟨#[97]⟩, .int .i64 0, .int .i64 0, .int .i64 0, .int .i64 0, .int .i64 0, .string ByteArray.empty, .int .i64 0, .int .i64 5, .slice (some ⟨W.heap.size, 0, none⟩) 1 1, .string ⟨#[98]⟩, .int .i64 0, .int .i64 0, .int .i64 0, .int .i64 0, .int .i64 0, .string ByteArray.empty, .int .i64 0, .int .i64 5, .slice none 0 0, .string ⟨#[99]⟩, .int .i64 0, .int .i64 0, .int .i64 0, .int .i64 0, .int .i64 0, .string ByteArray.empty, .int .i64 0] 60 := by rw [hw1]; exact Blk.new' _ _ _ (by simp)
  clear hw1
  have HB1 := hid hb1
  have K := hid (fun w' hb => keepL (w' := w') h0 h1 hb)
  have HO := hid (order_any (.slice (some ⟨W.heap.size + 1, 0, none⟩) 3 3) (kL W.heap.size) w1 (K.out w1 (Below.refl _ _)).rows (fun _ h => h) (by show 3 < 20; decide) (fun x hx => ((K.out w1 (Below.refl _ _)).wf x hx).at) (kL_psl _))
  have HK1 := hid h1
  clear hb1 h0 h1
  go_wp2_with fail
  refine HO.out.mono ?_
  rintro e w2 ⟨v2, rfl, l2, hc2, hb2, hown2, hat2⟩
  obtain ⟨g, cap2, rfl, _, hg⟩ := owns_at hown2 (by show 0 < 3; decide)
  have hl2 : l2.length = 3 := by
    have := congrArg List.length hc2
    rw [List.length_map, List.length_map, Srt.order_length] at this
    exact this
  obtain ⟨x0, x1, x2, rfl⟩ : ∃ x0 x1 x2, l2 = [x0, x1, x2] := by
    match l2, hl2 with
    | [a, b, c], _ => exact ⟨a, b, c, rfl⟩
  have hc3 : x0.core = (kB W.heap.size).core ∧ x1.core = kC.core ∧ x2.core = kA.core := by
    have e : Srt.order Rl.rank (kL W.heap.size) = [kB W.heap.size, kC, kA] := rfl
    rw [e] at hc2
    simpa using hc2
  have t0 : x0.target = ⟨#[98]⟩ := (Rl.core_eq hc3.1).2.2.1
  have t1 : x1.target = ⟨#[99]⟩ := (Rl.core_eq hc3.2.1).2.2.1
  have t2 : x2.target = ⟨#[97]⟩ := (Rl.core_eq hc3.2.2).2.2.1
  have u0 : w2.cell? ⟨g, 2, none⟩ = some (.string ⟨#[98]⟩) := by rw [hown2.cellAt 2 (by show 2 < 3 * 10; decide), ← t0]; rfl
  have u1 : w2.cell? ⟨g, 12, none⟩ = some (.string ⟨#[99]⟩) := by rw [hown2.cellAt 12 (by show 12 < 3 * 10; decide), ← t1]; rfl
  have u2 : w2.cell? ⟨g, 22, none⟩ = some (.string ⟨#[97]⟩) := by rw [hown2.cellAt 22 (by show 22 < 3 * 10; decide), ← t2]; rfl
  have HB2 := hid hb2
  clear hown2 hat2 hc2 hc3 hl2 t0 t1 t2 hb2 HO
  have LV3 : (kL W.heap.size).length = 3 := rfl
  have H0 : Hid (∀ w', Below w1.heap.size w1 w' → Calls Try.prog 54 #[.slice (some ⟨W.heap.size + 1, 0, none⟩) 3 3, .agg #[.string ByteArray.empty, .string ⟨#[120]⟩, .string ByteArray.empty, .slice none 0 0, .string ByteArray.empty]] w' fun e w'' => e = .returned (.int .i64 1) ∧ Below w'.heap.size w' w'') := hid (fun w' hw => first_any _ (kL W.heap.size) ByteArray.empty ⟨#[120]⟩ ByteArray.empty ByteArray.empty [] none 0 1 w' (K.out w' hw).rows (K.out w' hw).wf (kReq w' ⟨#[120]⟩ (by decide)) (by decide) (by show 3 ≤ 10000000000000; decide) (fun r hr => Nat.le_trans (kL_psl _ r hr) (by decide)) (by rfl))
  have H1 : Hid (∀ w', Below w1.heap.size w1 w' → Calls Try.prog 54 #[.slice (some ⟨W.heap.size + 1, 0, none⟩) 3 3, .agg #[.string ByteArray.empty, .string ByteArray.empty, .string ByteArray.empty, .slice none 0 0, .string ByteArray.empty]] w' fun e w'' => e = .returned (.int .i64 2) ∧ Below w'.heap.size w' w'') := hid (fun w' hw => first_any _ (kL W.heap.size) ByteArray.empty ByteArray.empty ByteArray.empty ByteArray.empty [] none 0 2 w' (K.out w' hw).rows (K.out w' hw).wf (kReq w' ByteArray.empty (by decide)) (by decide) (by show 3 ≤ 10000000000000; decide) (fun r hr => Nat.le_trans (kL_psl _ r hr) (by decide)) (by rfl))
  have H2 : Hid (∀ w', Below w1.heap.size w1 w' → Calls Try.prog 54 #[.slice none 0 0, .agg #[.string ByteArray.empty, .string ByteArray.empty, .string ByteArray.empty, .slice none 0 0, .string ByteArray.empty]] w' fun e w'' => e = .returned (.int .i64 (-1)) ∧ Below w'.heap.size w' w'') := hid (fun w' hw => first_any _ [] ByteArray.empty ByteArray.empty ByteArray.empty ByteArray.empty [] none 0 (-1) w' (RowsOf.nil _ _ _ _) (by simp) (kReq w' ByteArray.empty (by decide)) (by decide) (by decide) (by simp) (by rfl))
  have H3 : Hid (∀ w', Below w1.heap.size w1 w' → Calls Try.prog 49 #[.agg #[.int .i64 1, .slice none 0 0, .string ⟨#[97]⟩, .int .i64 0, .int .i64 0, .int .i64 0, .int .i64 0, .int .i64 0, .string ByteArray.empty, .int .i64 0], .agg #[.string ByteArray.empty, .string ByteArray.empty, .string ByteArray.empty, .slice none 0 0, .string ByteArray.empty]] w' fun e w'' => e = .returned (.bool true) ∧ Below w'.heap.size w' w'') := hid (fun w' hw => C16.hits_any kA ByteArray.empty ByteArray.empty ByteArray.empty ByteArray.empty [] none 0 true w' (kA_wf _ _) (kReq w' ByteArray.empty (by decide)) (Nat.le_refl _) (by decide) (by decide) (by rfl))
  have H4 : Hid (∀ w' : World, Calls Try.prog 45 #[.agg #[.int .i64 1, .slice none 0 0, .string ⟨#[97]⟩, .int .i64 0, .int .i64 0, .int .i64 0, .int .i64 0, .int .i64 0, .string ByteArray.empty, .int .i64 0], .slice (some ⟨w'.heap.size, 0, none⟩) 1 1] (w'.alloc (.cells #[.string ⟨#[97]⟩] 9)) fun e w'' => e = .returned (.int .i64 0) ∧ Below (w'.alloc (.cells #[.string ⟨#[97]⟩] 9)).heap.size (w'.alloc (.cells #[.string ⟨#[97]⟩] 9)) w'') := hid (fun w' =>
    check_any 1 none 0 [] ⟨#[97]⟩ 0 0 0 0 0 ByteArray.empty 0 [⟨#[97]⟩] (.slice (some ⟨w'.heap.size, 0, none⟩) 1 1) 0 _ (RowsOf.nil _ _ _ _) (by simp) (by decide) ((rows_of_blk (l := [⟨#[97]⟩]) (enc := sEnc) (k := 1) (fun _ => rfl) (Blk.new w' #[.string ⟨#[97]⟩] 9) rfl (by decide)).imp (fun b hb => by rw [hb]; simp)) (by decide) (by rfl))
  have H5 : Hid (∀ w' : World, Calls Try.prog 45 #[.agg #[.int .i64 1, .slice none 0 0, .string ⟨#[97]⟩, .int .i64 0, .int .i64 0, .int .i64 0, .int .i64 0, .int .i64 0, .string ByteArray.empty, .int .i64 0], .slice none 0 0] w' fun e w'' => e = .returned (.int .i64 7) ∧ Below w'.heap.size w' w'') := hid (fun w' =>
    check_any 1 none 0 [] ⟨#[97]⟩ 0 0 0 0 0 ByteArray.empty 0 [] (.slice none 0 0) 7 _ (RowsOf.nil _ _ _ _) (by simp) (by decide) (RowsOf.nil _ _ _ _) (by decide) (by rfl))
  have KA : Hid (∀ w', Below w1.heap.size w1 w' → Blk w' (W.heap.size + 1) #[.int .i64 1, .slice none 0 0, .string ⟨#[97]⟩, .int .i64 0, .int .i64 0, .int .i64 0, .int .i64 0, .int .i64 0, .string ByteArray.empty, .int .i64 0, .int .i64 5, .slice (some ⟨W.heap.size, 0, none⟩) 1 1, .string ⟨#[98]⟩, .int .i64 0, .int .i64 0, .int .i64 0, .int .i64 0, .int .i64 0, .string ByteArray.empty, .int .i64 0, .int .i64 5, .slice none 0 0, .string ⟨#[99]⟩, .int .i64 0, .int .i64 0, .int .i64 0, .int .i64 0, .int .i64 0, .string ByteArray.empty, .int .i64 0] 60) := hid (fun w' hw => HK1.out.later hw)
  clear K HK1
  go_wp2_with fail
  refine (H0.out _ HB2.out).mono ?_
  rintro e w3 ⟨rfl, hb⟩
  have HB3 := hid (HB2.out.trans (hb.mono HB2.out.size))
  clear hb
  go_wp2_with fail
  refine (H1.out _ HB3.out).mono ?_
  rintro e w4 ⟨rfl, hb⟩
  have HB4 := hid (HB3.out.trans (hb.mono HB3.out.size))
  clear hb
  go_wp2_with fail
  refine (H2.out _ HB4.out).mono ?_
  rintro e w5 ⟨rfl, hb⟩
  have HB5 := hid (HB4.out.trans (hb.mono HB4.out.size))
  clear hb
  have hkaw5 := KA.out w5 HB5.out
  have hklw5 := hkaw5.lt
  have a0w5 : w5.cell? ⟨W.heap.size + 1, 0, none⟩ = some (.int .i64 1) := hkaw5.cell 0
  have a1w5 : w5.cell? ⟨W.heap.size + 1, 1, none⟩ = some (.slice none 0 0) := hkaw5.cell 1
  have a2w5 : w5.cell? ⟨W.heap.size + 1, 2, none⟩ = some (.string ⟨#[97]⟩) := hkaw5.cell 2
  have a3w5 : w5.cell? ⟨W.heap.size + 1, 3, none⟩ = some (.int .i64 0) := hkaw5.cell 3
  have a4w5 : w5.cell? ⟨W.heap.size + 1, 4, none⟩ = some (.int .i64 0) := hkaw5.cell 4
  have a5w5 : w5.cell? ⟨W.heap.size + 1, 5, none⟩ = some (.int .i64 0) := hkaw5.cell 5
  have a6w5 : w5.cell? ⟨W.heap.size + 1, 6, none⟩ = some (.int .i64 0) := hkaw5.cell 6
  have a7w5 : w5.cell? ⟨W.heap.size + 1, 7, none⟩ = some (.int .i64 0) := hkaw5.cell 7
  have a8w5 : w5.cell? ⟨W.heap.size + 1, 8, none⟩ = some (.string ByteArray.empty) := hkaw5.cell 8
  have a9w5 : w5.cell? ⟨W.heap.size + 1, 9, none⟩ = some (.int .i64 0) := hkaw5.cell 9
  clear hkaw5
  go_wp2_with fail
  refine (H3.out _ HB5.out).mono ?_
  rintro e w6 ⟨rfl, hb⟩
  have HB6 := hid (HB5.out.trans (hb.mono HB5.out.size))
  clear hb
  have hkaw6 := KA.out w6 HB6.out
  have hklw6 := hkaw6.lt
  have a0w6 : w6.cell? ⟨W.heap.size + 1, 0, none⟩ = some (.int .i64 1) := hkaw6.cell 0
  have a1w6 : w6.cell? ⟨W.heap.size + 1, 1, none⟩ = some (.slice none 0 0) := hkaw6.cell 1
  have a2w6 : w6.cell? ⟨W.heap.size + 1, 2, none⟩ = some (.string ⟨#[97]⟩) := hkaw6.cell 2
  have a3w6 : w6.cell? ⟨W.heap.size + 1, 3, none⟩ = some (.int .i64 0) := hkaw6.cell 3
  have a4w6 : w6.cell? ⟨W.heap.size + 1, 4, none⟩ = some (.int .i64 0) := hkaw6.cell 4
  have a5w6 : w6.cell? ⟨W.heap.size + 1, 5, none⟩ = some (.int .i64 0) := hkaw6.cell 5
  have a6w6 : w6.cell? ⟨W.heap.size + 1, 6, none⟩ = some (.int .i64 0) := hkaw6.cell 6
  have a7w6 : w6.cell? ⟨W.heap.size + 1, 7, none⟩ = some (.int .i64 0) := hkaw6.cell 7
  have a8w6 : w6.cell? ⟨W.heap.size + 1, 8, none⟩ = some (.string ByteArray.empty) := hkaw6.cell 8
  have a9w6 : w6.cell? ⟨W.heap.size + 1, 9, none⟩ = some (.int .i64 0) := hkaw6.cell 9
  clear hkaw6
  have HS4 : Hid (Below w1.heap.size w1 (w6.alloc (.cells #[.string ⟨#[97]⟩] 9))) := hid (HB6.out.alloc HB6.out.size _)
  go_wp2_with fail
  refine (H4.out _).mono ?_
  rintro e w7 ⟨rfl, hb⟩
  have HB7 := hid (HS4.out.trans (hb.mono HS4.out.size))
  clear hb
  have hkaw7 := KA.out w7 HB7.out
  have hklw7 := hkaw7.lt
  have a0w7 : w7.cell? ⟨W.heap.size + 1, 0, none⟩ = some (.int .i64 1) := hkaw7.cell 0
  have a1w7 : w7.cell? ⟨W.heap.size + 1, 1, none⟩ = some (.slice none 0 0) := hkaw7.cell 1
  have a2w7 : w7.cell? ⟨W.heap.size + 1, 2, none⟩ = some (.string ⟨#[97]⟩) := hkaw7.cell 2
  have a3w7 : w7.cell? ⟨W.heap.size + 1, 3, none⟩ = some (.int .i64 0) := hkaw7.cell 3
  have a4w7 : w7.cell? ⟨W.heap.size + 1, 4, none⟩ = some (.int .i64 0) := hkaw7.cell 4
  have a5w7 : w7.cell? ⟨W.heap.size + 1, 5, none⟩ = some (.int .i64 0) := hkaw7.cell 5
  have a6w7 : w7.cell? ⟨W.heap.size + 1, 6, none⟩ = some (.int .i64 0) := hkaw7.cell 6
  have a7w7 : w7.cell? ⟨W.heap.size + 1, 7, none⟩ = some (.int .i64 0) := hkaw7.cell 7
  have a8w7 : w7.cell? ⟨W.heap.size + 1, 8, none⟩ = some (.string ByteArray.empty) := hkaw7.cell 8
  have a9w7 : w7.cell? ⟨W.heap.size + 1, 9, none⟩ = some (.int .i64 0) := hkaw7.cell 9
  clear hkaw7
  go_wp2_with fail
  refine (H5.out _).mono ?_
  rintro e w8 ⟨rfl, hb⟩
  have HB8 := hid (HB7.out.trans (hb.mono HB7.out.size))
  clear hb
  go_wp2_with fail
  go_ret
  exact ⟨rfl, HB1.out.trans (HB8.out.mono HB1.out.size)⟩
end C12
end Go.Proofs.Ytmmmaldpalhjeaa
