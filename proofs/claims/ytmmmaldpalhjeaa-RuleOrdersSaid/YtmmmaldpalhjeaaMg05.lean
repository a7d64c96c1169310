/- Walks of layers 5 and 11: few predicates; a request that is short; no condition. Walks of layer 11 (pred): the checks of any kind; what must come of fixed calls; no condition. Rules and tables as plain data, and what arguments read as. No program in sight. Walks of layer 12 (rule): numbers that may be, names that are there; no condition. Walks of layer 12 (rule): whether a rule may be; no condition. Walks of layer 12 (rule): whether a rule may be; no condition. Walks of layer 12 (rule): lists of predicates alike; no condition. Walks of layer 12 (rule): lists of predicates cloned; no condition. Rules whose predicates lie in memory of their own. No program in sight. Walks of layer 12 (rule): rules of one's own; no condition. Walks of layer 12 (rule): the order of two rules; no condition. -/
import Derived.Test.YtmmmaldpalhjeaaMg02
import Derived.Test.YtmmmaldpalhjeaaMg04
import Derived.Deep.Cut
import Derived.Deep.RegionHeld3
import Derived.Laws.StructEq
import Derived.StillTailTactics
import Derived.Laws.LoneSync
import Derived.Deep.RegionLaw
import Derived.Laws.IdiomCopy
import Derived.Lib.MinMax
namespace Go.Proofs.Ytmmmaldpalhjeaa
open Go.RowKit Go.Peri
namespace C11
set_option maxRecDepth 100000 in
theorem few_any {p : Nat → Prop} (v : Value) (l : List Prd) (r : Bool) (W : World) (h : RowsOf p Prd.enc 3 W v l) (hp : ∀ b, p b → b < W.heap.size) (hw : ∀ x ∈ l, x.Wf) (hl : l.length ≤ 1000000000000000) (hr : Prd.few l = r) :
    Calls Try.prog 42 #[v] W fun e w' => e = .returned (.bool r) ∧ Below W.heap.size W w' := by
  obtain ⟨a, cap, rfl, hlc, hcm, _, hcell⟩ := h
  have HC := hid hcell
  have HP := hid hp
  have HWF := hid hw
  have HR := hid hr
  clear hcell hp hw hr
  by_cases h60 : 20 < l.length
  · have hd : Hid (Prd.few l = false) := hid (by unfold Prd.few; rw [decide_eq_false (by omega)]; rfl)
    go_enter Try.func42, Try.ntmps42
    go_wp2_with fail
    go_ret
    exact ⟨by rw [← HR.out, hd.out]; rfl, Below.refl _ _⟩
  go_enter Try.func42, Try.ntmps42
  go_wp2_with fail
  go_loopw [3] (fun i wr => ∃ k : Nat, k ≤ l.length ∧ i = .int .i64 k ∧ Below W.heap.size W wr ∧ ∀ j (_ : j < k) (h1 : j < l.length), Prd.fewB l[j] = true) (fun i _ => l.length - (intOf i).toNat)
  case atStart => exact ⟨0, Nat.zero_le _, rfl, Below.refl _ _, fun j hj => absurd hj (Nat.not_lt_zero _)⟩
  case round =>
    obtain ⟨k, hk, rfl, hb, hno⟩ := hrel
    have HB := hid hb
    have HN := hid hno
    clear hb hno
    by_cases hlt : k < l.length
    · obtain ⟨b, off, rfl, hpb, hc⟩ := HC.out.resolve_left (by intro e; rw [e] at hlt; simp at hlt)
      have hbl := HP.out b hpb
      have hcc := Prd.cells (fun j u hu => (HB.out.cell (p := ⟨b, off + k * 3 + j, none⟩) hbl).trans (hc k hlt j u hu))
      have HNext : Hid (Prd.fewB l[k] = true → ∀ j (_ : j < k + 1) (h1 : j < l.length), Prd.fewB l[j] = true) := by
        intro he j hj h1
        by_cases e : j = k
        · subst e; exact he
        · exact HN.out j (by omega) h1
      have HHit : Hid (Prd.fewB l[k] = false → Prd.few l = false) := fun h1 => by
        unfold Prd.few
        rw [Bool.and_eq_false_iff]
        right
        rw [List.all_eq_false]
        exact ⟨l[k], List.getElem_mem hlt, by rw [Bool.not_eq_true]; exact h1⟩
      have hwy := HWF.out l[k] (List.getElem_mem hlt)
      clear hc
      generalize l[k] = y at hcc HNext HHit hwy
      have hy1 := hwy.name
      have hy2 := hwy.value
      have hk1 : (k : Int) < (l.length : Int) := by omega
      have HF : Hid (Prd.fewB y = decide (y.name.size + y.value.size ≤ 400)) := hid rfl
      obtain ⟨n1, hn1⟩ : ∃ n, n = y.name.size := ⟨_, rfl⟩
      obtain ⟨n2, hn2⟩ : ∃ n, n = y.value.size := ⟨_, rfl⟩
      rw [← hn1] at hy1 HF
      rw [← hn2] at hy2 HF
      by_cases hs : n1 + n2 ≤ 400
      · have HV := hid (HNext.out (by rw [HF.out]; exact decide_eq_true hs))
        have hwr : IntKind.i64.wrap ((n1 : Int) + (n2 : Int)) = (n1 : Int) + (n2 : Int) := IntWalk.i64_in _ (by omega)
        have hle : ¬ (400 : Int) < (n1 : Int) + (n2 : Int) := by omega
        rw [hn1, hn2] at hwr hle
        clear hwy HHit HNext hn1 hn2
        obtain ⟨c0, c1, c2⟩ := hcc
        go_wp2_with fail
        go_quiet (fail)
        go_wp2_with fail
        go_roundw
        case rel => exact ⟨k + 1, by omega, by go_num, HB.out.trans ⟨rfl, rfl, rfl, Nat.le_refl _, fun _ _ => rfl⟩, HV.out⟩
        case measure => simp [intOf]; omega
      · have HV := hid (HHit.out (by rw [HF.out]; exact decide_eq_false hs))
        have hwr : IntKind.i64.wrap ((n1 : Int) + (n2 : Int)) = (n1 : Int) + (n2 : Int) := IntWalk.i64_in _ (by omega)
        have hle : (400 : Int) < (n1 : Int) + (n2 : Int) := by omega
        rw [hn1, hn2] at hwr hle
        clear hwy HHit HNext hn1 hn2
        obtain ⟨c0, c1, c2⟩ := hcc
        go_wp2_with fail
        go_quiet (fail)
        go_wp2_with fail
        go_ret
        exact ⟨by rw [← HR.out, HV.out]; rfl, HB.out.trans ⟨rfl, rfl, rfl, Nat.le_refl _, fun _ _ => rfl⟩⟩
    · obtain rfl : k = l.length := by omega
      have hd : Hid (Prd.few l = true) := hid (by
        unfold Prd.few
        rw [decide_eq_true (by omega), Bool.true_and, List.all_eq_true]
        intro x hx
        obtain ⟨i, hi, rfl⟩ := List.getElem_of_mem hx
        exact HN.out i hi hi)
      go_wp2_with fail
      go_ret
      exact ⟨by rw [← HR.out, hd.out]; rfl, HB.out⟩
def fewH (h : Hd) : Bool := decide (h.name.size + h.value.size ≤ 400)
def short (m h q b : ByteArray) (l : List Hd) : Bool := decide (m.size + h.size + q.size + b.size ≤ 2000) && Hd.few40 l
theorem short_len {m h q b : ByteArray} {l : List Hd} (hr : short m h q b l = true) : m.size + h.size + q.size + b.size ≤ 2000 ∧ l.length ≤ 40 := by
  unfold short Hd.few40 at hr
  rw [Bool.and_eq_true, Bool.and_eq_true] at hr
  exact ⟨of_decide_eq_true hr.1, of_decide_eq_true hr.2.1⟩
set_option maxRecDepth 100000 in
set_option maxHeartbeats 1000000 in
theorem short_any {p : Nat → Prop} (m h q b : ByteArray) (l : List Hd) (a : Option Addr) (cap : Nat) (r : Bool) (W : World) (hrow : RowsOf p Hd.enc 2 W (.slice a l.length cap) l) (hp : ∀ b, p b → b < W.heap.size) (hw : ∀ x ∈ l, x.Wf) (hl : l.length ≤ 1000000000000000)
    (hm : m.size ≤ 140737488351232) (hh : h.size ≤ 140737488351232) (hq : q.size ≤ 140737488351232) (hbs : b.size ≤ 140737488351232) (hr : short m h q b l = r) :
    Calls Try.prog 48 #[.agg #[.string m, .string h, .string q, .slice a l.length cap, .string b]] W fun e w' => e = .returned (.bool r) ∧ Below W.heap.size W w' := by
  obtain ⟨a', cap', e9, hlc, hcm, _, hcell⟩ := hrow
  cases e9
  have HC := hid hcell
  have HP := hid hp
  have HWF := hid hw
  have HZ := hid (Blk.new W #[.string m, .string h, .string q, .slice a l.length cap, .string b] 67)
  have HB0 : Hid (Below W.heap.size W (W.alloc (.cells #[.string m, .string h, .string q, .slice a l.length cap, .string b] 67))) := by show Below _ _ _; go_grown
  unfold short at hr
  clear hcell hp hw
  by_cases h2 : m.size + h.size + q.size + b.size ≤ 2000
  · have g1 : ¬ (2000 : Int) < (m.size : Int) + (h.size : Int) + (q.size : Int) + (b.size : Int) := by omega
    rw [decide_eq_true h2, Bool.true_and] at hr
    have HR := hid hr
    clear h2 hr
    by_cases h40 : 40 < l.length
    · have hd : Hid (Hd.few40 l = false) := hid (by unfold Hd.few40; rw [decide_eq_false (by omega)]; rfl)
      have g2 : (40 : Int) < (l.length : Int) := by omega
      go_enter Try.func48, Try.ntmps48
      go_wp2_with fail
      go_ret
      exact ⟨by rw [← HR.out, hd.out]; rfl, HB0.out⟩
    have g2 : ¬ (40 : Int) < (l.length : Int) := by omega
    have HR1 := HR
    clear HR
    have HR : Hid (Hd.few40 l = r) := HR1
    go_enter Try.func48, Try.ntmps48
    go_wp2_with fail
    go_loopw [3] (fun i wr => ∃ k : Nat, k ≤ l.length ∧ i = .int .i64 k ∧ Below (W.alloc (.cells #[.string m, .string h, .string q, .slice a l.length cap, .string b] 67)).heap.size (W.alloc (.cells #[.string m, .string h, .string q, .slice a l.length cap, .string b] 67)) wr ∧ ∀ j (_ : j < k) (h1 : j < l.length), fewH l[j] = true) (fun i _ => l.length - (intOf i).toNat)
    case atStart => exact ⟨0, Nat.zero_le _, rfl, Below.refl _ _, fun j hj => absurd hj (Nat.not_lt_zero _)⟩
    case round =>
      obtain ⟨k, hk, rfl, hb, hno⟩ := hrel
      have HQ : Hid (Below (W.alloc (.cells #[.string m, .string h, .string q, .slice a l.length cap, .string b] 67)).heap.size (W.alloc (.cells #[.string m, .string h, .string q, .slice a l.length cap, .string b] 67)) wr) := hid hb
      have hz := HZ.out.later hb
      have q3 : wr.cell? ⟨W.heap.size, 3, none⟩ = some (.slice a l.length cap) := hz.cell 3
      have hlt0 := hz.lt
      replace hb : Below W.heap.size W wr := HB0.out.trans (hb.mono HB0.out.size)
      clear hz
      have HB := hid hb
      have HN := hid hno
      clear hb hno
      by_cases hlt : k < l.length
      · obtain ⟨b, off, rfl, hpb, hc⟩ := HC.out.resolve_left (by intro e; rw [e] at hlt; simp at hlt)
        have hbl := HP.out b hpb
        have hcc := Hd.cells (fun j u hu => (HB.out.cell (p := ⟨b, off + k * 2 + j, none⟩) hbl).trans (hc k hlt j u hu))
        have HNext : Hid (fewH l[k] = true → ∀ j (_ : j < k + 1) (h1 : j < l.length), fewH l[j] = true) := by
          intro he j hj h1
          by_cases e : j = k
          · subst e; exact he
          · exact HN.out j (by omega) h1
        have HHit : Hid (fewH l[k] = false → Hd.few40 l = false) := fun h1 => by
          unfold Hd.few40
          rw [Bool.and_eq_false_iff]
          right
          rw [List.all_eq_false]
          exact ⟨l[k], List.getElem_mem hlt, by rw [Bool.not_eq_true]; exact h1⟩
        have hwy := HWF.out l[k] (List.getElem_mem hlt)
        clear hc
        generalize l[k] = y at hcc HNext HHit hwy
        have hy1 := hwy.name
        have hy2 := hwy.value
        have hk1 : (k : Int) < (l.length : Int) := by omega
        have HF : Hid (fewH y = decide (y.name.size + y.value.size ≤ 400)) := hid rfl
        obtain ⟨n1, hn1⟩ : ∃ n, n = y.name.size := ⟨_, rfl⟩
        obtain ⟨n2, hn2⟩ : ∃ n, n = y.value.size := ⟨_, rfl⟩
        rw [← hn1] at hy1 HF
        rw [← hn2] at hy2 HF
        by_cases hs : n1 + n2 ≤ 400
        · have HV := hid (HNext.out (by rw [HF.out]; exact decide_eq_true hs))
          have hwr : IntKind.i64.wrap ((n1 : Int) + (n2 : Int)) = (n1 : Int) + (n2 : Int) := IntWalk.i64_in _ (by omega)
          have hle : ¬ (400 : Int) < (n1 : Int) + (n2 : Int) := by omega
          rw [hn1, hn2] at hwr hle
          clear hwy HHit HNext hn1 hn2
          obtain ⟨c0, c1⟩ := hcc
          go_wp2_with fail
          go_quiet (fail)
          go_wp2_with fail
          go_roundw
          case rel => exact ⟨k + 1, by omega, by go_num, HQ.out.trans ⟨rfl, rfl, rfl, Nat.le_refl _, fun _ _ => rfl⟩, HV.out⟩
          case measure => simp [intOf]; omega
        · have HV := hid (HHit.out (by rw [HF.out]; exact decide_eq_false hs))
          have hwr : IntKind.i64.wrap ((n1 : Int) + (n2 : Int)) = (n1 : Int) + (n2 : Int) := IntWalk.i64_in _ (by omega)
          have hle : (400 : Int) < (n1 : Int) + (n2 : Int) := by omega
          rw [hn1, hn2] at hwr hle
          clear hwy HHit HNext hn1 hn2
          obtain ⟨c0, c1⟩ := hcc
          go_wp2_with fail
          go_quiet (fail)
          go_wp2_with fail
          go_ret
          exact ⟨by rw [← HR.out, HV.out]; rfl, HB.out.trans ⟨rfl, rfl, rfl, Nat.le_refl _, fun _ _ => rfl⟩⟩
      · obtain rfl : k = l.length := by omega
        have hd : Hid (Hd.few40 l = true) := hid (by
          unfold Hd.few40
          rw [decide_eq_true (by omega), Bool.true_and, List.all_eq_true]
          intro x hx
          obtain ⟨i, hi, rfl⟩ := List.getElem_of_mem hx
          exact HN.out i hi hi)
        go_wp2_with fail
        go_ret
        exact ⟨by rw [← HR.out, hd.out]; rfl, HB.out⟩
  · have g1 : (2000 : Int) < (m.size : Int) + (h.size : Int) + (q.size : Int) + (b.size : Int) := by omega
    rw [decide_eq_false h2, Bool.false_and] at hr
    subst hr
    clear h2
    go_enter Try.func48, Try.ntmps48
    go_wp2_with fail
    go_ret
    exact ⟨rfl, HB0.out⟩
end C11
end Go.Proofs.Ytmmmaldpalhjeaa
namespace Go.Proofs.Ytmmmaldpalhjeaa
open Go.RowKit Go.Peri
namespace C11
def checkR (k : Int) (n v : ByteArray) : Int :=
  if k = 1 then (if n.size ≠ 0 then 2 else if methodOk v = true then 0 else 3)
  else if k = 2 then (if n.size ≠ 0 then 2 else if Hd.nameOk v = true then 0 else 7)
  else if k = 3 then (if n.size ≠ 0 then 2 else if pathOk v = true then 0 else 12)
  else if k = 4 then (if n.size ≠ 0 then 2 else if pathOk v = true then 0 else 12)
  else if k = 5 then (if Hd.nameOk n = true then (if Hd.valueOk v = true then 0 else 15) else 7)
  else if k = 6 then (if v.size ≠ 0 then 2 else if Hd.nameOk n = true then 0 else 7)
  else 2
theorem pcheck_any (k : Int) (n v : ByteArray) (r : Int) (W : World) (hn : n.size ≤ 1000000000000000) (hv : v.size ≤ 1000000000000000) (hr : checkR k n v = r) :
    Calls Try.prog 98 #[.agg #[.int .i64 k, .string n, .string v]] W fun e w' => e = .returned (.int .i64 r) ∧ Below W.heap.size W w' := by
  unfold checkR at hr
  by_cases h1 : k = 1
  · rw [if_pos h1] at hr
    subst h1
    exact pcheck1 n v r W hv hr
  rw [if_neg h1] at hr
  by_cases h2 : k = 2
  · rw [if_pos h2] at hr
    subst h2
    exact pcheck2 n v r W hv hr
  rw [if_neg h2] at hr
  by_cases h3 : k = 3
  · rw [if_pos h3] at hr
    subst h3
    exact pcheck3 n v r W hv hr
  rw [if_neg h3] at hr
  by_cases h4 : k = 4
  · rw [if_pos h4] at hr
    subst h4
    exact pcheck4 n v r W hv hr
  rw [if_neg h4] at hr
  by_cases h5 : k = 5
  · rw [if_pos h5] at hr
    subst h5
    exact pcheck5 n v r W hn hv hr
  rw [if_neg h5] at hr
  by_cases h6 : k = 6
  · rw [if_pos h6] at hr
    subst h6
    exact pcheck6 n v r W hn hr
  rw [if_neg h6] at hr
  subst hr
  exact pcheck0 k n v W (by omega)
theorem rcheck_any (k : Int) (n v : ByteArray) (r : Int) (W : World) (hn : n.size ≤ 1000000000000000) (hv : v.size ≤ 1000000000000000) (hr : checkR k n v = r) :
    Calls Try.prog 103 #[.agg #[.int .i64 k, .string n, .string v]] W fun e w' => e = .returned (.int .i64 r) ∧ Below W.heap.size W w' := by
  unfold checkR at hr
  by_cases h1 : k = 1
  · rw [if_pos h1] at hr
    subst h1
    exact rcheck1 n v r W hv hr
  rw [if_neg h1] at hr
  by_cases h2 : k = 2
  · rw [if_pos h2] at hr
    subst h2
    exact rcheck2 n v r W hv hr
  rw [if_neg h2] at hr
  by_cases h3 : k = 3
  · rw [if_pos h3] at hr
    subst h3
    exact rcheck3 n v r W hv hr
  rw [if_neg h3] at hr
  by_cases h4 : k = 4
  · rw [if_pos h4] at hr
    subst h4
    exact rcheck4 n v r W hv hr
  rw [if_neg h4] at hr
  by_cases h5 : k = 5
  · rw [if_pos h5] at hr
    subst h5
    exact rcheck5 n v r W hn hv hr
  rw [if_neg h5] at hr
  by_cases h6 : k = 6
  · rw [if_pos h6] at hr
    subst h6
    exact rcheck6 n v r W hn hr
  rw [if_neg h6] at hr
  subst hr
  exact rcheck0 k n v W (by omega)
def kHs : List Hd := [⟨⟨#[107]⟩, ⟨#[118]⟩⟩]
end C11
end Go.Proofs.Ytmmmaldpalhjeaa
namespace Go.Peri
open Go.RowKit
/-- A rule: its predicates lie where pa says. -/
structure Rl where
  rank : Int
  pa : Option Addr
  pcap : Nat
  preds : List Prd
  target : ByteArray
  ap : Int
  as_ : Int
  dp : Int
  dt : Int
  mp : Int
  mirror : ByteArray
  sample : Int
namespace Rl
def enc (r : Rl) : List Value := [.int .i64 r.rank, .slice r.pa r.preds.length r.pcap, .string r.target, .int .i64 r.ap, .int .i64 r.as_, .int .i64 r.dp, .int .i64 r.dt, .int .i64 r.mp, .string r.mirror, .int .i64 r.sample]
theorem enc_length (r : Rl) : r.enc.length = 10 := rfl
def ty : Ty := .cons (.int .i64) (.cons (.slice 40 Prd.ty) (.cons .str (.cons (.int .i64) (.cons (.int .i64) (.cons (.int .i64) (.cons (.int .i64) (.cons (.int .i64) (.cons .str (.cons (.int .i64) .nil)))))))))
/-- What is known of a rule that came in. -/
structure Wf (w : World) (B : Nat) (r : Rl) : Prop where
  rows : RowsOf (· < B) Prd.enc 3 w (.slice r.pa r.preds.length r.pcap) r.preds
  len : r.preds.length * 40 ≤ 140737488351232
  preds : ∀ x ∈ r.preds, x.Wf
  rank : Sp.I64 r.rank
  target : r.target.size ≤ 140737488351232
  mirror : r.mirror.size ≤ 140737488351232
theorem Wf.below {w w' : World} {B : Nat} {r : Rl} (h : Wf w B r) (hb : Below B w w') : Wf w' B r := ⟨h.rows.below hb (fun _ h => h), h.len, h.preds, h.rank, h.target, h.mirror⟩
theorem of_rd {w : World} {B : Nat} {cs : List Value} (h : Rd w B ty cs) : ∃ r : Rl, cs = r.enc ∧ Wf w B r := by
  obtain ⟨_, _, rfl, _, a0, h⟩ := h
  obtain ⟨c1, _, rfl, hl1, a1, h⟩ := h
  obtain ⟨_, _, rfl, _, a2, h⟩ := h
  obtain ⟨_, _, rfl, _, a3, h⟩ := h
  obtain ⟨_, _, rfl, _, a4, h⟩ := h
  obtain ⟨_, _, rfl, _, a5, h⟩ := h
  obtain ⟨_, _, rfl, _, a6, h⟩ := h
  obtain ⟨_, _, rfl, _, a7, h⟩ := h
  obtain ⟨_, _, rfl, _, a8, h⟩ := h
  obtain ⟨_, _, rfl, _, a9, h⟩ := h
  obtain ⟨n0, rfl, g0⟩ := Sp.rd_i64 a0
  obtain ⟨t, rfl, g2⟩ := Hd.rd_str a2
  obtain ⟨n3, rfl, _⟩ := Sp.rd_i64 a3
  obtain ⟨n4, rfl, _⟩ := Sp.rd_i64 a4
  obtain ⟨n5, rfl, _⟩ := Sp.rd_i64 a5
  obtain ⟨n6, rfl, _⟩ := Sp.rd_i64 a6
  obtain ⟨n7, rfl, _⟩ := Sp.rd_i64 a7
  obtain ⟨m, rfl, g8⟩ := Hd.rd_str a8
  obtain ⟨n9, rfl, _⟩ := Sp.rd_i64 a9
  have e1 : (_ : List Value) = [] := h
  subst e1
  obtain ⟨v1, rfl⟩ : ∃ v, c1 = [v] := by
    match c1, hl1 with
    | [v], _ => exact ⟨v, rfl⟩
  obtain ⟨l, k1, k2, k3⟩ := preds_of_arg (v := v1) a1
  obtain ⟨a, cap, rfl⟩ : ∃ a cap, v1 = .slice a l.length cap := by
    obtain ⟨a, cap, e, _⟩ := k1
    exact ⟨a, cap, e⟩
  exact ⟨⟨n0, a, cap, l, t, n3, n4, n5, n6, n7, m, n9⟩, rfl, ⟨k1, k2, k3, g0, g2, g8⟩⟩
theorem cells {y : Rl} {w : World} {b o : Nat} (h : ∀ j u, y.enc[j]? = some u → w.cell? ⟨b, o + j, none⟩ = some u) :
    w.cell? ⟨b, o, none⟩ = some (.int .i64 y.rank) ∧ w.cell? ⟨b, o + 1, none⟩ = some (.slice y.pa y.preds.length y.pcap) ∧ w.cell? ⟨b, o + 2, none⟩ = some (.string y.target) ∧ w.cell? ⟨b, o + 3, none⟩ = some (.int .i64 y.ap) ∧ w.cell? ⟨b, o + 4, none⟩ = some (.int .i64 y.as_) ∧ w.cell? ⟨b, o + 5, none⟩ = some (.int .i64 y.dp) ∧ w.cell? ⟨b, o + 6, none⟩ = some (.int .i64 y.dt) ∧ w.cell? ⟨b, o + 7, none⟩ = some (.int .i64 y.mp) ∧ w.cell? ⟨b, o + 8, none⟩ = some (.string y.mirror) ∧ w.cell? ⟨b, o + 9, none⟩ = some (.int .i64 y.sample) :=
  ⟨h 0 _ rfl, h 1 _ rfl, h 2 _ rfl, h 3 _ rfl, h 4 _ rfl, h 5 _ rfl, h 6 _ rfl, h 7 _ rfl, h 8 _ rfl, h 9 _ rfl⟩
theorem one (l : List Rl) : ∀ u ∈ l.flatMap Rl.enc, u.oneCell' = true := by
  intro u hu
  obtain ⟨o, _, ho⟩ := List.mem_flatMap.1 hu
  simp only [Rl.enc, List.mem_cons, List.not_mem_nil, or_false] at ho
  rcases ho with rfl | rfl | rfl | rfl | rfl | rfl | rfl | rfl | rfl | rfl <;> rfl
def fewB (r : Rl) : Bool := Prd.few r.preds && decide (r.target.size + r.mirror.size ≤ 400)
def few (l : List Rl) : Bool := decide (l.length ≤ 40) && l.all fewB
theorem few_len {l : List Rl} (h : few l = true) : l.length ≤ 40 := by
  unfold few at h
  rw [Bool.and_eq_true] at h
  exact of_decide_eq_true h.1
theorem few_preds {l : List Rl} (h : few l = true) : ∀ r ∈ l, r.preds.length ≤ 20 := by
  unfold few at h
  rw [Bool.and_eq_true, List.all_eq_true] at h
  intro r hr
  have := h.2 r hr
  unfold fewB at this
  rw [Bool.and_eq_true] at this
  exact Prd.few_len this.1
end Rl
theorem rules_of_arg {w : World} {B : Nat} {v : Value} (h : Arg w B (.slice 112 Rl.ty) v) : ∃ l : List Rl, RowsOf (· < B) Rl.enc 10 w v l ∧ l.length * 112 ≤ 140737488351232 ∧ (∀ x ∈ l, x.Wf w B) := by
  obtain ⟨l, h1, h2, h3⟩ := rows_of_arg (enc := Rl.enc) (wf := Rl.Wf w B) (e := Rl.ty) (fun _ => rfl) (fun cs hc => Rl.of_rd hc) h
  exact ⟨l, h1, h2, h3⟩
/-- A table's version, rules, and format. -/
def tabTy : Ty := .cons (.int .i64) (.cons (.slice 112 Rl.ty) (.cons .str .nil))
structure TabV (w : World) (B : Nat) (l : List Rl) (a : Option Addr) (cap : Nat) (f : ByteArray) : Prop where
  rows : RowsOf (· < B) Rl.enc 10 w (.slice a l.length cap) l
  len : l.length * 112 ≤ 140737488351232
  wf : ∀ x ∈ l, x.Wf w B
  f : f.size ≤ 140737488351232
theorem TabV.below {w w' : World} {B : Nat} {l : List Rl} {a : Option Addr} {cap : Nat} {f : ByteArray} (h : TabV w B l a cap f) (hb : Below B w w') : TabV w' B l a cap f := ⟨h.rows.below hb (fun _ h => h), h.len, fun x hx => (h.wf x hx).below hb, h.f⟩
theorem tab_of_arg {w : World} {B : Nat} {v : Value} (h : Arg w B tabTy v) : ∃ (n : Int) (l : List Rl) (a : Option Addr) (cap : Nat) (f : ByteArray), v = .agg #[.int .i64 n, .slice a l.length cap, .string f] ∧ TabV w B l a cap f := by
  obtain ⟨cs, rfl, h⟩ : ∃ cs, v = .agg cs ∧ Rd w B tabTy cs.toList := h
  obtain ⟨_, _, e, _, a0, h⟩ := h
  obtain ⟨c1, _, rfl, hl1, a1, h⟩ := h
  obtain ⟨_, _, rfl, _, a2, h⟩ := h
  obtain ⟨n, rfl, _⟩ := Sp.rd_i64 a0
  obtain ⟨f, rfl, g2⟩ := Hd.rd_str a2
  have e1 : (_ : List Value) = [] := h
  subst e1
  obtain ⟨v1, rfl⟩ : ∃ v, c1 = [v] := by
    match c1, hl1 with
    | [v], _ => exact ⟨v, rfl⟩
  obtain ⟨l, k1, k2, k3⟩ := rules_of_arg (v := v1) a1
  obtain ⟨a, cap, rfl⟩ : ∃ a cap, v1 = .slice a l.length cap := by
    obtain ⟨a, cap, e, _⟩ := k1
    exact ⟨a, cap, e⟩
  refine ⟨n, l, a, cap, f, ?_, ⟨k1, k2, k3, g2⟩⟩
  congr 1
  apply Array.toList_inj.1
  rw [e]
  rfl
theorem i8s_three {w : World} {B : Nat} {v : Value} (h : Arg w B (.cons (.int .i8) (.cons (.int .i8) (.cons (.int .i8) .nil))) v) : ∃ a b c : Int, v = .agg #[.int .i8 a, .int .i8 b, .int .i8 c] ∧ (-128 ≤ a ∧ a ≤ 127) ∧ (-128 ≤ b ∧ b ≤ 127) ∧ (-128 ≤ c ∧ c ≤ 127) := by
  obtain ⟨cs, rfl, c1, c2, e, _, h1, c3, c4, e2, _, h2, c5, c6, e3, _, h3, h4⟩ := h
  obtain ⟨x, rfl, hx⟩ := h1
  obtain ⟨y, rfl, hy⟩ := h2
  obtain ⟨z, rfl, hz⟩ := h3
  have h5 : c6 = [] := h4
  subst h5
  have k : ∀ n : Int, (Lit.int .i8 n).wf = true → -128 ≤ n ∧ n ≤ 127 := fun n hw => by
    have h : IntKind.i8.min ≤ n ∧ n ≤ IntKind.i8.max := by simpa [Lit.wf] using hw
    exact h
  refine ⟨x, y, z, ?_, k x hx, k y hy, k z hz⟩
  congr 1
  apply Array.toList_inj.1
  rw [e, e2, e3]
  rfl
end Go.Peri
namespace Go.Proofs.Ytmmmaldpalhjeaa
open Go.RowKit Go.Peri
namespace C12
def inB (n lo hi : Int) : Bool := decide (lo ≤ n) && decide (n ≤ hi)
theorem within_any (n lo hi : Int) (b : Bool) (w : World) (hb : inB n lo hi = b) : Calls Try.prog 97 #[.int .i64 n, .int .i64 lo, .int .i64 hi] w fun e w' => e = .returned (.bool b) ∧ w = w' := by
  subst hb
  unfold inB
  by_cases h1 : lo ≤ n
  · have hd : decide (lo ≤ n) = true := by simpa using h1
    rw [hd]
    go_enter Try.func97, Try.ntmps97
    go_wp2
    go_ret
    exact ⟨by simp, rfl⟩
  · have hd : decide (lo ≤ n) = false := by simpa using h1
    rw [hd]
    go_enter Try.func97, Try.ntmps97
    go_wp2
    go_ret
    exact ⟨by simp, rfl⟩
theorem part_any (n : Int) (b : Bool) (w : World) (hb : inB n 0 100 = b) : Calls Try.prog 105 #[.int .i64 n] w fun e w' => e = .returned (.bool b) ∧ w = w' := by
  subst hb
  unfold inB
  by_cases h1 : 0 ≤ n
  · have hd : decide (0 ≤ n) = true := by simpa using h1
    rw [hd]
    go_enter Try.func105, Try.ntmps105
    go_wp2
    go_ret
    exact ⟨by simp, rfl⟩
  · have hd : decide (0 ≤ n) = false := by simpa using h1
    rw [hd]
    go_enter Try.func105, Try.ntmps105
    go_wp2
    go_ret
    exact ⟨by simp, rfl⟩
def sizedB (n lo hi pct : Int) : Bool := inB n lo hi || (decide (n = 0) && decide (pct = 0))
theorem sized_any (n lo hi pct : Int) (b : Bool) (w : World) (hb : sizedB n lo hi pct = b) : Calls Try.prog 102 #[.int .i64 n, .int .i64 lo, .int .i64 hi, .int .i64 pct] w fun e w' => e = .returned (.bool b) ∧ w = w' := by
  subst hb
  obtain ⟨q, hq⟩ : ∃ q, inB n lo hi = q := ⟨_, rfl⟩
  have HW := hid (fun w => within_any n lo hi q w hq)
  unfold sizedB
  rw [hq]
  clear hq
  cases q
  · by_cases h0 : n = 0
    · subst h0
      by_cases hp : pct = 0
      · subst hp
        go_enter Try.func102, Try.ntmps102
        go_wp2_with fail
        refine (HW.out _).mono ?_
        rintro e w' ⟨rfl, rfl⟩
        go_wp2_with fail
        go_ret
        exact ⟨rfl, rfl⟩
      · have hp2 : (pct == 0) = false := by simpa using hp
        go_enter Try.func102, Try.ntmps102
        go_wp2_with fail
        refine (HW.out _).mono ?_
        rintro e w' ⟨rfl, rfl⟩
        go_wp2_with fail
        go_ret
        exact ⟨by simp [hp], rfl⟩
    · have h02 : (n == 0) = false := by simpa using h0
      go_enter Try.func102, Try.ntmps102
      go_wp2_with fail
      refine (HW.out _).mono ?_
      rintro e w' ⟨rfl, rfl⟩
      go_wp2_with fail
      go_ret
      exact ⟨by simp [h0], rfl⟩
  · go_enter Try.func102, Try.ntmps102
    go_wp2_with fail
    refine (HW.out _).mono ?_
    rintro e w' ⟨rfl, rfl⟩
    go_wp2_with fail
    go_ret
    exact ⟨rfl, rfl⟩
theorem parts1_any (n : Int) (b : Bool) (w : World) (hb : inB n 0 100 = b) : Calls Try.prog 155 #[.int .i64 n] w fun e w' => e = .returned (.bool (!b)) ∧ w = w' := by
  have HW := hid (fun w => within_any n 0 100 b w hb)
  clear hb
  go_enter Try.func155, Try.ntmps155
  go_wp2_with fail
  refine (HW.out _).mono ?_
  rintro e w' ⟨rfl, rfl⟩
  go_wp2_with fail
  go_ret
  exact ⟨rfl, rfl⟩
theorem in_any {p : Nat → Prop} (v : Value) (ns : List ByteArray) (s : ByteArray) (r : Bool) (W : World) (h : RowsOf p sEnc 1 W v ns) (hl : ns.length ≤ 1000000000000) (hr : ns.any (fun x => decide (x = s)) = r) :
    Calls Try.prog 104 #[v, .string s] W fun e w' => e = .returned (.bool r) ∧ W = w' := by
  obtain ⟨a, cap, rfl, h2, h3, h4, h5⟩ := h
  have H5 := hid h5
  have HR := hid hr
  clear h5 h4 hr
  go_enter Try.func104, Try.ntmps104
  go_wp2_with fail
  go_loop [5] (fun i => ∃ k : Nat, k ≤ ns.length ∧ i = .int .i64 k ∧ Hid ((ns.take k).any (fun x => decide (x = s)) = false)) (fun i => ns.length - (intOf i).toNat)
  case atStart => exact ⟨0, Nat.zero_le _, rfl, hid rfl⟩
  case round =>
    obtain ⟨k, hk, rfl, hno⟩ := hrel
    by_cases hk2 : k < ns.length
    · obtain ⟨x, hx⟩ : ∃ x, ns[k] = x := ⟨_, rfl⟩
      obtain ⟨b, off, rfl, hc⟩ : ∃ b off, a = some ⟨b, off, none⟩ ∧ W.cell? ⟨b, off + k, none⟩ = some (.string x) := by
        rcases H5.out with h0 | ⟨b, off, h1, _, h3⟩
        · rw [h0] at hk2; simp at hk2
        · refine ⟨b, off, h1, ?_⟩
          have := h3 k hk2 0 (.string x) (by rw [hx]; rfl)
          simpa using this
      have HT : Hid (ns.take (k + 1) = ns.take k ++ [x]) := by show _ = _; rw [List.take_succ_eq_append_getElem hk2, hx]
      have HM : Hid (x ∈ ns) := by show _; rw [← hx]; exact List.getElem_mem hk2
      by_cases he : x = s
      · have hq : (x.toList == s.toList) = true := by rw [bytes_beq]; simpa using he
        have HRT : Hid (r = true) := by
          show _ = _
          rw [← HR.out, List.any_eq_true]
          exact ⟨x, HM.out, by simpa using he⟩
        clear he
        go_wp2_with fail
        go_ret
        exact ⟨by rw [HRT.out]; rfl, rfl⟩
      · have hq : (x.toList == s.toList) = false := by rw [bytes_beq]; simpa using he
        have HN : Hid ((ns.take (k + 1)).any (fun x => decide (x = s)) = false) := by show _ = _; rw [HT.out, List.any_append, hno.out]; simpa using he
        clear he
        go_wp2_with fail
        go_round
        case rel => exact ⟨k + 1, by omega, by go_num, HN⟩
        case measure => simp [intOf]; omega
    · obtain rfl : k = ns.length := by omega
      have HRF : Hid (r = false) := by show _ = _; have := hno.out; rw [List.take_length] at this; rw [← HR.out, this]
      go_wp2_with fail
      go_ret
      exact ⟨by rw [HRF.out]; rfl, rfl⟩
end C12
end Go.Proofs.Ytmmmaldpalhjeaa
namespace Go.Proofs.Ytmmmaldpalhjeaa
open Go.RowKit Go.Peri
namespace C12
/-- The first predicate that may not be, and why. -/
def bad : List Prd → Int
  | [] => 0
  | x :: l => if C11.checkR x.kind x.name x.value = 0 then bad l else C11.checkR x.kind x.name x.value
def isIn (ns : List ByteArray) (s : ByteArray) : Bool := ns.any (fun x => decide (x = s))
def checkR (rank : Int) (ps : List Prd) (target : ByteArray) (ap as_ dp dt mp : Int) (mirror : ByteArray) (sample : Int) (ns : List ByteArray) : Int :=
  if inB rank 0 99 = false then 12
  else if 4 < ps.length then 8
  else if bad ps ≠ 0 then bad ps
  else if isIn ns target = false then 7
  else if mirror.size ≠ 0 ∧ isIn ns mirror = false then 7
  else if [ap, dp, mp, sample].all (fun n => inB n 0 100) = false then 12
  else if sizedB as_ 400 599 ap = false then 12
  else if sizedB dt 1 50 dp = false then 12
  else if 0 < mp ∧ mirror.size = 0 then 9 else 0
theorem bad_drop (ps : List Prd) (k : Nat) (h : k < ps.length) : bad (ps.drop k) = if C11.checkR ps[k].kind ps[k].name ps[k].value = 0 then bad (ps.drop (k + 1)) else C11.checkR ps[k].kind ps[k].name ps[k].value := by
  rw [List.drop_eq_getElem_cons h]; rfl
set_option maxRecDepth 100000 in
theorem parts_any (g : Nat) (l : List Int) (r : Bool) (w : World) (hc : ∀ k (hk : k < l.length), w.cell? ⟨g, k, none⟩ = some (.int .i64 l[k])) (hl : l.length ≤ 1000) (hr : l.all (fun n => inB n 0 100) = r) :
    Calls Try.prog 101 #[.slice (some ⟨g, 0, none⟩) l.length l.length] w fun e w' => e = .returned (.bool r) ∧ w = w' := by
  have HIX : Hid (Calls Try.prog 191 #[.slice (some ⟨g, 0, none⟩) l.length l.length, .func (.func 155) #[] #[]] w fun e w' => (∃ i : Int, e = .returned (.int .i64 i) ∧ decide (0 ≤ i) = !r) ∧ w = w') := by
    show Calls _ _ _ _ _
    have HC := hid hc
    have HR := hid hr
    clear hc hr
    go_enter Try.func191, Try.ntmps191
    go_wp2_with fail
    go_loop [8] (fun i => ∃ k : Nat, k ≤ l.length ∧ i = .int .i64 k ∧ Hid ((l.take k).all (fun n => inB n 0 100) = true)) (fun i => l.length - (intOf i).toNat)
    case atStart => exact ⟨0, Nat.zero_le _, rfl, hid rfl⟩
    case round =>
      obtain ⟨k, hk, rfl, hall⟩ := hrel
      by_cases hk2 : k < l.length
      · obtain ⟨x, hx⟩ : ∃ x, l[k] = x := ⟨_, rfl⟩
        have hcell := HC.out k hk2
        rw [hx] at hcell
        obtain ⟨q, hq⟩ : ∃ q, inB x 0 100 = q := ⟨_, rfl⟩
        have HT : Hid ((l.take (k + 1)).all (fun n => inB n 0 100) = q) := by show _ = _; rw [List.take_succ_eq_append_getElem hk2, List.all_append, hall.out, hx]; simp [hq]
        have HF : Hid (q = false → r = false) := hid (fun h => by
          subst h
          rw [← HR.out, List.all_eq_false]
          exact ⟨x, by rw [← hx]; exact List.getElem_mem hk2, by simp [hq]⟩)
        have HP := hid (fun w => parts1_any x q w hq)
        clear hq
        cases q
        · have HRF : Hid (r = false) := hid (HF.out rfl)
          clear HF
          go_wp2_with fail
          refine (HP.out _).mono ?_
          rintro e w' ⟨rfl, rfl⟩
          go_wp2_with fail
          go_ret
          exact ⟨⟨_, rfl, by rw [HRF.out]; simp⟩, rfl⟩
        · go_wp2_with fail
          refine (HP.out _).mono ?_
          rintro e w' ⟨rfl, rfl⟩
          go_wp2_with fail
          go_round
          case rel => exact ⟨k + 1, by omega, by go_num, HT⟩
          case measure => simp [intOf]; omega
      · obtain rfl : k = l.length := by omega
        have HRT : Hid (r = true) := by show _ = _; have := hall.out; rw [List.take_length] at this; rw [← HR.out, this]
        go_wp2_with fail
        go_ret
        exact ⟨⟨-1, rfl, by rw [HRT.out]; rfl⟩, rfl⟩
  clear hc hr
  have HCF : Hid (Calls Try.prog 154 #[.slice (some ⟨g, 0, none⟩) l.length l.length, .func (.func 155) #[] #[]] w fun e w' => e = .returned (.bool (!r)) ∧ w = w') := by
    show Calls _ _ _ _ _
    go_enter Try.func154, Try.ntmps154
    go_wp2_with fail
    refine HIX.out.mono ?_
    rintro e w' ⟨⟨i, rfl, hi⟩, rfl⟩
    have HI := hid hi
    clear hi
    go_wp2_with fail
    go_ret
    exact ⟨by rw [← HI.out]; rfl, rfl⟩
  go_enter Try.func101, Try.ntmps101
  go_wp2_with fail
  refine HCF.out.mono ?_
  rintro e w' ⟨rfl, rfl⟩
  go_wp2_with fail
  go_ret
  exact ⟨by simp, rfl⟩
theorem lit_in {p : Nat → Prop} (s : ByteArray) (ns : List ByteArray) (vn : Value) (q : Bool) (B : Nat) (w : World) (hc : w.cell? ⟨B, 0, none⟩ = some vn) (hr : RowsOf p sEnc 1 w vn ns) (hl : ns.length ≤ 1000000000000) (hq : isIn ns s = q) :
    Calls Try.prog 99 #[.string s, .pointer (some ⟨B, 0, none⟩)] w fun e w' => e = .returned (.bool q) ∧ w = w' := by
  have HCN := hid (C04.contains_any vn ns s q w hr hl hq)
  obtain ⟨a, cap, rfl⟩ := hr.form
  clear hr hq
  go_enter Try.func99, Try.ntmps99
  go_wp2_with fail
  refine HCN.out.mono ?_
  rintro e w' ⟨rfl, rfl⟩
  go_wp2_with fail
  go_ret
  exact ⟨rfl, rfl⟩
end C12
end Go.Proofs.Ytmmmaldpalhjeaa
namespace Go.Proofs.Ytmmmaldpalhjeaa
open Go.RowKit Go.Peri
namespace C12
theorem wp_gen {P : Program} {c : Code} {Q : Exit → Act → World → Prop} {a : Act} {w : World} (h : ∀ w2, w2 = w → c.wp P Q a w2) : c.wp P Q a w := h w rfl
set_option maxRecDepth 100000 in
set_option maxHeartbeats 2000000 in
theorem check_any (rank : Int) (pa : Option Addr) (pcap : Nat) (ps : List Prd) (target : ByteArray) (ap as_ dp dt mp : Int) (mirror : ByteArray) (sample : Int) (ns : List ByteArray) (vn : Value) (c : Int) (W : World)
    (hp : RowsOf (· < W.heap.size) Prd.enc 3 W (.slice pa ps.length pcap) ps) (hw : ∀ x ∈ ps, x.Wf) (hpl : ps.length ≤ 1000000000) (hn : RowsOf (· < W.heap.size) sEnc 1 W vn ns) (hl : ns.length ≤ 1000000000000) (hc : checkR rank ps target ap as_ dp dt mp mirror sample ns = c) :
    Calls Try.prog 45 #[.agg #[.int .i64 rank, .slice pa ps.length pcap, .string target, .int .i64 ap, .int .i64 as_, .int .i64 dp, .int .i64 dt, .int .i64 mp, .string mirror, .int .i64 sample], vn] W fun e w' => e = .returned (.int .i64 c) ∧ Below W.heap.size W w' := by
  obtain ⟨r0, h0⟩ : ∃ q, inB rank 0 99 = q := ⟨_, rfl⟩
  have HW := hid (fun w => within_any rank 0 99 r0 w h0)
  unfold checkR at hc
  rw [h0] at hc
  have HC := hid hc
  have HPS := hid hp
  have HWF := hid hw
  have HNS := hid hn
  obtain ⟨na, ncap, rfl⟩ := hn.form
  clear hc hp hw hn h0
  have hmf : ∀ (fn : Fn) (first cap : Array Value) (w : World), (Instr.makeFunc fn first cap).run Try.prog w = .ok (.func fn first cap) w := fun _ _ _ _ => rfl
  go_enter Try.func45, Try.ntmps45
  go_upto_region 1 with fail
  refine wp_gen ?_
  intro w1 hw1
  have hb1 : Below W.heap.size W w1 := by rw [hw1]; go_grown
  have hk1 : Blk w1 W.heap.size #[.int .i64 rank, .slice pa ps.length pcap, .string target, .int .i64 ap, .int .i64 as_, .int .i64 dp, .int .i64 dt, .int .i64 mp, .string mirror, .int .i64 sample] 60 := by rw [hw1]; exact (Blk.new _ _ _).alloc _
  have hn1 : Blk w1 (W.heap.size + 1) #[.slice na ns.length ncap] 28 := by rw [hw1]; exact Blk.new' _ _ _ (by simp)
  clear hw1
  have HB1 := hid hb1
  have HK1 := hid hk1
  have HN1 := hid hn1
  have c0 : w1.cell? ⟨W.heap.size, 0, none⟩ = some (.int .i64 rank) := hk1.cell 0
  have c1 : w1.cell? ⟨W.heap.size, 1, none⟩ = some (.slice pa ps.length pcap) := hk1.cell 1
  clear hb1 hk1 hn1
  go_wp2_with fail
  refine (HW.out _).mono ?_
  rintro e w' ⟨rfl, rfl⟩
  cases r0
  · go_wp2_with fail
    go_ret
    exact ⟨by rw [← HC.out]; rfl, HB1.out⟩
  by_cases h4 : 4 < ps.length
  · go_wp2_with fail
    go_ret
    exact ⟨by rw [← HC.out, if_neg (by simp), if_pos h4]; rfl, HB1.out⟩
  have h0 := HC.out
  rw [if_neg (by simp), if_neg h4] at h0
  obtain ⟨rest, hrest⟩ : ∃ q, (if isIn ns target = false then (7 : Int) else if mirror.size ≠ 0 ∧ isIn ns mirror = false then 7 else if ([ap, dp, mp, sample].all fun n => inB n 0 100) = false then 12 else if sizedB as_ 400 599 ap = false then 12 else if sizedB dt 1 50 dp = false then 12 else if 0 < mp ∧ mirror.size = 0 then 9 else 0) = q := ⟨_, rfl⟩
  rw [hrest] at h0
  have HC2 := hid h0
  have HRS := hid hrest
  clear h0 hrest HC HW
  go_wp2_with fail
  go_loopw [20] (fun i wr => ∃ k : Nat, k ≤ ps.length ∧ i = .int .i64 k ∧ Hid (bad (ps.drop k) = bad ps) ∧ Below w1.heap.size w1 wr) (fun i _ => ps.length - (intOf i).toNat)
  case atStart => exact ⟨0, Nat.zero_le _, rfl, hid rfl, Below.refl _ _⟩
  case round =>
    obtain ⟨k, hk, rfl, hbd, hb⟩ := hrel
    have HB := hid hb
    clear hb c0 c1
    by_cases hk2 : k < ps.length
    · obtain ⟨kd, nm, vl, hx⟩ : ∃ kd nm vl, ps[k] = ⟨kd, nm, vl⟩ := ⟨_, _, _, rfl⟩
      have hwf := HWF.out ps[k] (List.getElem_mem hk2)
      rw [hx] at hwf
      obtain ⟨e, he⟩ : ∃ e, C11.checkR kd nm vl = e := ⟨_, rfl⟩
      have HPC := hid (fun w => C11.pcheck_any kd nm vl e w (Nat.le_trans hwf.name (by decide)) (Nat.le_trans hwf.value (by decide)) he)
      have HBD : Hid (bad ps = if e = 0 then bad (ps.drop (k + 1)) else e) := by show _ = _; rw [← hbd.out, bad_drop ps k hk2, hx, he]
      have hrow := (HPS.out.below (HB1.out.trans (HB.out.mono HB1.out.size)) (fun _ h => h))
      obtain ⟨b, off, rfl, cc0, cc1, cc2⟩ : ∃ b off, pa = some ⟨b, off, none⟩ ∧ wr.cell? ⟨b, off + k * 3, none⟩ = some (.int .i64 kd) ∧ wr.cell? ⟨b, off + k * 3 + 1, none⟩ = some (.string nm) ∧ wr.cell? ⟨b, off + k * 3 + 2, none⟩ = some (.string vl) := by
        obtain ⟨a', cap', e', _, _, _, h5⟩ := hrow
        rcases h5 with h0 | ⟨b, off, h1, _, h3⟩
        · rw [h0] at hk2; simp at hk2
        · cases e'
          exact ⟨b, off, h1, h3 k hk2 0 _ (by rw [hx]; rfl), h3 k hk2 1 _ (by rw [hx]; rfl), h3 k hk2 2 _ (by rw [hx]; rfl)⟩
      clear he hwf hrow
      by_cases he0 : e = 0
      · subst he0
        have HBD2 : Hid (bad (ps.drop (k + 1)) = bad ps) := by show _ = _; rw [HBD.out]; simp
        clear HBD
        go_wp2_with fail
        refine (HPC.out _).mono ?_
        rintro e' w2 ⟨rfl, hb2⟩
        have HB2 := hid ((HB.out.alloc HB.out.size _).trans (hb2.mono (HB.out.alloc HB.out.size _).size))
        clear hb2
        go_wp2_with fail
        go_roundw
        case rel => exact ⟨k + 1, by omega, by go_num, HBD2, HB2.out⟩
        case measure => simp [intOf]; omega
      · have HCE : Hid (c = e) := by
          have hbe : bad ps = e := by rw [HBD.out, if_neg he0]
          show _ = _
          rw [← HC2.out, hbe, if_pos he0]
        have he1 : (e == 0) = false := by simpa using he0
        have he2 : (e != 0) = true := by simpa using he0
        clear HBD HC2
        go_wp2_with fail
        refine (HPC.out _).mono ?_
        rintro e' w2 ⟨rfl, hb2⟩
        have HB2 := hid ((HB.out.alloc HB.out.size _).trans (hb2.mono (HB.out.alloc HB.out.size _).size))
        clear hb2
        go_wp2_with fail
        go_ret
        exact ⟨by rw [HCE.out]; rfl, HB1.out.trans (HB2.out.mono HB1.out.size)⟩
    · obtain rfl : k = ps.length := by omega
      have hb0 : bad ps = 0 := by have := hbd.out; rw [List.drop_length] at this; exact this.symm
      have hcr := HC2.out
      rw [hb0, if_neg (by simp), ← HRS.out] at hcr
      have hk := HK1.out.below HB.out HK1.out.lt
      have c2 : wr.cell? ⟨W.heap.size, 2, none⟩ = some (.string target) := hk.cell 2
      have c3 : wr.cell? ⟨W.heap.size, 3, none⟩ = some (.int .i64 ap) := hk.cell 3
      have c4 : wr.cell? ⟨W.heap.size, 4, none⟩ = some (.int .i64 as_) := hk.cell 4
      have c5 : wr.cell? ⟨W.heap.size, 5, none⟩ = some (.int .i64 dp) := hk.cell 5
      have c6 : wr.cell? ⟨W.heap.size, 6, none⟩ = some (.int .i64 dt) := hk.cell 6
      have c7 : wr.cell? ⟨W.heap.size, 7, none⟩ = some (.int .i64 mp) := hk.cell 7
      have c8 : wr.cell? ⟨W.heap.size, 8, none⟩ = some (.string mirror) := hk.cell 8
      have c9 : wr.cell? ⟨W.heap.size, 9, none⟩ = some (.int .i64 sample) := hk.cell 9
      have hlt := hk.lt
      have hnn : wr.cell? ⟨W.heap.size + 1, 0, none⟩ = some (.slice na ns.length ncap) := (HN1.out.below HB.out HN1.out.lt).cell 0
      have HBR := hid (HB1.out.trans (HB.out.mono HB1.out.size))
      have HBA := hid (HBR.out.alloc HBR.out.size (.cells #[.int .i64 ap, .int .i64 dp, .int .i64 mp, .int .i64 sample] 3))
      have hrn := HNS.out.below HBR.out (fun _ h => h)
      obtain ⟨q1, hq1⟩ : ∃ q, isIn ns target = q := ⟨_, rfl⟩
      obtain ⟨q2, hq2⟩ : ∃ q, isIn ns mirror = q := ⟨_, rfl⟩
      have HI1 := hid (lit_in target ns _ q1 (W.heap.size + 1) wr hnn hrn hl hq1)
      have HI2 := hid (lit_in mirror ns _ q2 (W.heap.size + 1) wr hnn hrn hl hq2)
      obtain ⟨pt, hpt⟩ : ∃ q, [ap, dp, mp, sample].all (fun n => inB n 0 100) = q := ⟨_, rfl⟩
      obtain ⟨s1, hs1⟩ : ∃ q, sizedB as_ 400 599 ap = q := ⟨_, rfl⟩
      obtain ⟨s2, hs2⟩ : ∃ q, sizedB dt 1 50 dp = q := ⟨_, rfl⟩
      have HS1 := hid (fun w => sized_any as_ 400 599 ap s1 w hs1)
      have HS2 := hid (fun w => sized_any dt 1 50 dp s2 w hs2)
      have hbk : Blk (wr.alloc (.cells #[.int .i64 ap, .int .i64 dp, .int .i64 mp, .int .i64 sample] 3)) wr.heap.size #[.int .i64 ap, .int .i64 dp, .int .i64 mp, .int .i64 sample] 3 := Blk.new _ _ _
      have HPT := hid (parts_any wr.heap.size [ap, dp, mp, sample] pt _ (fun k hk => by
        rw [hbk.cell]
        match k, hk with
        | 0, _ => rfl
        | 1, _ => rfl
        | 2, _ => rfl
        | 3, _ => rfl) (by show 4 ≤ 1000; decide) hpt)
      rw [hq1, hq2, hpt, hs1, hs2] at hcr
      clear hq1 hq2 hpt hs1 hs2 hbk hk hb0 hbd HC2 HRS HPS HWF HNS HN1 hrn
      cases q1
      · have HCR : Hid (c = 7) := by show _ = _; rw [← hcr]; rfl
        clear hcr
        go_wp2_with fail
        refine HI1.out.mono ?_
        rintro e' w2 ⟨rfl, rfl⟩
        go_wp2_with fail
        go_ret
        exact ⟨by rw [HCR.out]; rfl, HBR.out⟩
      by_cases hm : mirror.size = 0
      · have HME : Hid (mirror.size = 0) := hid hm
        have HCR : Hid (c = if pt = false then 12 else if s1 = false then 12 else if s2 = false then 12 else if 0 < mp ∧ mirror.size = 0 then 9 else 0) := by show _ = _; rw [← hcr]; simp [hm]
        obtain rfl := C11.none_of mirror hm
        clear hcr hm
        go_wp2_with fail
        refine HI1.out.mono ?_
        rintro e' w2 ⟨rfl, rfl⟩
        go_wp2_with fail
        refine HPT.out.mono ?_
        rintro e' w2 ⟨rfl, rfl⟩
        cases pt
        · go_wp2_with fail
          go_ret
          exact ⟨by rw [HCR.out]; rfl, HBA.out⟩
        go_wp2_with fail
        refine (HS1.out _).mono ?_
        rintro e' w2 ⟨rfl, rfl⟩
        cases s1
        · go_wp2_with fail
          go_ret
          exact ⟨by rw [HCR.out]; rfl, HBA.out⟩
        go_wp2_with fail
        refine (HS2.out _).mono ?_
        rintro e' w2 ⟨rfl, rfl⟩
        cases s2
        · go_wp2_with fail
          go_ret
          exact ⟨by rw [HCR.out]; rfl, HBA.out⟩
        by_cases hmp : 0 < mp
        · go_wp2_with fail
          go_ret
          exact ⟨by rw [HCR.out]; simp [hmp, HME.out], HBA.out⟩
        · go_wp2_with fail
          go_ret
          exact ⟨by rw [HCR.out, if_neg (by simp), if_neg (by simp), if_neg (by simp), if_neg (fun h => absurd h.1 (by omega))]; rfl, HBA.out⟩
      · have HME : Hid (mirror.size ≠ 0) := hid hm
        obtain ⟨f1, f2, f3⟩ := C11.full_of mirror hm
        cases q2
        · have HCR : Hid (c = 7) := by show _ = _; rw [← hcr]; simp [hm]
          clear hcr hm
          go_wp2_with fail
          refine HI1.out.mono ?_
          rintro e' w2 ⟨rfl, rfl⟩
          go_wp2_with fail
          refine HI2.out.mono ?_
          rintro e' w2 ⟨rfl, rfl⟩
          go_wp2_with fail
          go_ret
          exact ⟨by rw [HCR.out]; rfl, HBR.out⟩
        · have HCR : Hid (c = if pt = false then 12 else if s1 = false then 12 else if s2 = false then 12 else if 0 < mp ∧ mirror.size = 0 then 9 else 0) := by show _ = _; rw [← hcr]; simp
          clear hcr hm
          go_wp2_with fail
          refine HI1.out.mono ?_
          rintro e' w2 ⟨rfl, rfl⟩
          go_wp2_with fail
          refine HI2.out.mono ?_
          rintro e' w2 ⟨rfl, rfl⟩
          go_wp2_with fail
          refine HPT.out.mono ?_
          rintro e' w2 ⟨rfl, rfl⟩
          cases pt
          · go_wp2_with fail
            go_ret
            exact ⟨by rw [HCR.out]; rfl, HBA.out⟩
          go_wp2_with fail
          refine (HS1.out _).mono ?_
          rintro e' w2 ⟨rfl, rfl⟩
          cases s1
          · go_wp2_with fail
            go_ret
            exact ⟨by rw [HCR.out]; rfl, HBA.out⟩
          go_wp2_with fail
          refine (HS2.out _).mono ?_
          rintro e' w2 ⟨rfl, rfl⟩
          cases s2
          · go_wp2_with fail
            go_ret
            exact ⟨by rw [HCR.out]; rfl, HBA.out⟩
          by_cases hmp : 0 < mp
          · go_wp2_with fail
            go_ret
            exact ⟨by rw [HCR.out, if_neg (by simp), if_neg (by simp), if_neg (by simp), if_neg (fun h => HME.out h.2)]; rfl, HBA.out⟩
          · go_wp2_with fail
            go_ret
            exact ⟨by rw [HCR.out, if_neg (by simp), if_neg (by simp), if_neg (by simp), if_neg (fun h => absurd h.1 (by omega))]; rfl, HBA.out⟩
end C12
end Go.Proofs.Ytmmmaldpalhjeaa
namespace Go.Peri
deriving instance DecidableEq for Prd
end Go.Peri
namespace Go.Proofs.Ytmmmaldpalhjeaa
open Go.RowKit Go.Peri
namespace C12
theorem eqPrd (a b : Prd) (w : World) : (Op.equalIn 10000 146 (.agg #[.int .i64 a.kind, .string a.name, .string a.value]) (.agg #[.int .i64 b.kind, .string b.name, .string b.value])).run Try.prog w = .ok (decide (a = b)) w := by
  rw [show (10000 : Nat) = 9999 + 1 from rfl, run_equalIn_struct w 9999 146 _ _ (by kernel_rfl) (by kernel_rfl)]
  simp only [Program.fieldsOf, Try.underlying146, Op.eqFields]
  go_simp
  have inj_name : a.name.toList = b.name.toList → a.name = b.name := fun h => Go.WideShapes.bytes_inj (by rw [← ByteArray.toList_eq, ← ByteArray.toList_eq, h])
  have inj_value : a.value.toList = b.value.toList → a.value = b.value := fun h => Go.WideShapes.bytes_inj (by rw [← ByteArray.toList_eq, ← ByteArray.toList_eq, h])
  have ext : a.kind = b.kind → a.name.toList = b.name.toList → a.value.toList = b.value.toList → a = b := by
    intro h0 h1 h2
    have h1 := inj_name h1
    have h2 := inj_value h2
    obtain ⟨⟩ := a
    obtain ⟨⟩ := b
    simp_all
  by_cases h : a = b
  · subst h; simp
  · rw [decide_eq_false h]
    repeat' (split <;> try rfl)
    exact absurd (ext (by assumption) (by assumption) (by assumption)) h
set_option maxRecDepth 100000 in
theorem psame_any {p q : Nat → Prop} (u v : Value) (l m : List Prd) (r : Bool) (W : World) (h : RowsOf p Prd.enc 3 W u l) (hp : ∀ b, p b → b < W.heap.size) (h2 : RowsOf q Prd.enc 3 W v m) (hq : ∀ b, q b → b < W.heap.size) (hl : l.length ≤ 1000000000000) (hm : m.length ≤ 1000000000000)
    (hr : decide (l = m) = r) :
    Calls Try.prog 111 #[u, v] W fun e w' => e = .returned (.bool r) ∧ Below W.heap.size W w' := by
  obtain ⟨a, cap, rfl, hlc, hcm, _, hcell⟩ := h
  obtain ⟨a2, cap2, rfl, hlc2, hcm2, _, hcell2⟩ := h2
  have HP := hid hp
  have HQ := hid hq
  have HC := hid hcell
  have HC2 := hid hcell2
  have HR := hid hr
  clear hp hq hcell hcell2 hr
  by_cases hlen : l.length = m.length
  · have HLEN := hid hlen
    have hle2 : ((l.length : Int) == (m.length : Int)) = true := by simp [hlen]
    have hle3 : ((m.length : Int) == (m.length : Int)) = true := by simp
    generalize hn : l.length = n at hlen hlc hl HLEN hle2
    have HN := hid hn
    clear hn
    subst hlen
    go_enter Try.func111, Try.ntmps111
    go_wp2_with fail
    go_loopw [5] (fun i wr => ∃ k : Nat, k ≤ m.length ∧ i = .int .i64 k ∧ Below W.heap.size W wr ∧ ∀ j (_ : j < k) (h1 : j < l.length) (h2 : j < m.length), l[j] = m[j]) (fun i _ => m.length - (intOf i).toNat)
    case atStart => exact ⟨0, Nat.zero_le _, rfl, Below.refl _ _, fun j hj => absurd hj (Nat.not_lt_zero _)⟩
    case round =>
      obtain ⟨k, hk, rfl, hb, hno⟩ := hrel
      have HB := hid hb
      have HE := hid hno
      clear hb hno
      by_cases hlt : k < m.length
      · have hlt1 : k < l.length := by rw [HN.out]; exact hlt
        obtain ⟨b, off, rfl, hpb, hc⟩ := HC.out.resolve_left (by intro e; rw [e] at hlt1; simp at hlt1)
        obtain ⟨b2, off2, rfl, hpb2, hc2⟩ := HC2.out.resolve_left (by intro e; rw [e] at hlt; simp at hlt)
        have hbl : b < wr.heap.size := Nat.lt_of_lt_of_le (HP.out b hpb) HB.out.size
        have hbl2 : b2 < wr.heap.size := Nat.lt_of_lt_of_le (HQ.out b2 hpb2) HB.out.size
        obtain ⟨c0, c1, c2⟩ := Prd.cells (fun j u hu => (HB.out.cell (p := ⟨b, off + k * 3 + j, none⟩) (HP.out b hpb)).trans (hc k hlt1 j u hu))
        obtain ⟨d0, d1, d2⟩ := Prd.cells (fun j u hu => (HB.out.cell (p := ⟨b2, off2 + k * 3 + j, none⟩) (HQ.out b2 hpb2)).trans (hc2 k hlt j u hu))
        have HNext : Hid (l[k] = m[k] → ∀ j (_ : j < k + 1) (h1 : j < l.length) (h2 : j < m.length), l[j] = m[j]) := by
          intro he j hj h1 h2
          by_cases e : j = k
          · subst e; exact he
          · exact HE.out j (by omega) h1 h2
        have HHit : Hid (l[k] ≠ m[k] → l ≠ m) := fun hh e => hh (by subst e; rfl)
        clear hc hc2
        generalize l[k] = x at c0 c1 c2 HNext HHit
        generalize m[k] = y at d0 d1 d2 HNext HHit
        have hee := eqPrd x y
        by_cases hxy : x = y
        · have HX := hid hxy
          rw [decide_eq_true hxy] at hee
          clear hxy
          go_wp2_with fail
          refine wp_region_bw (by kernel_rfl) (by kernel_rfl) ?_
          repeat (go_big_quiet_step (fail))
          refine wpQuiet_nil ?_
          rintro w2 ⟨⟨_, hb2⟩, rfl⟩
          have HB2 : Hid (Below W.heap.size W w2) := HB.out.trans (hb2.mono HB.out.size)
          clear hb2
          go_wp2_with fail
          go_roundw
          case rel => exact ⟨k + 1, by omega, by go_num, HB2.out, HNext.out HX.out⟩
          case measure => simp [intOf]; omega
        · have HX := hid hxy
          rw [decide_eq_false hxy] at hee
          clear hxy
          go_wp2_with fail
          refine wp_region_bw (by kernel_rfl) (by kernel_rfl) ?_
          repeat (go_big_quiet_step (fail))
          refine wpQuiet_nil ?_
          rintro w2 ⟨⟨_, hb2⟩, rfl⟩
          have HB2 : Hid (Below W.heap.size W w2) := HB.out.trans (hb2.mono HB.out.size)
          clear hb2
          go_wp2_with fail
          go_ret
          exact ⟨by rw [← HR.out, decide_eq_false (HHit.out HX.out)]; rfl, HB2.out⟩
      · obtain rfl : k = m.length := by omega
        go_wp2_with fail
        go_ret
        have : l = m := List.ext_getElem HN.out (fun j h1 h2 => HE.out j h2 h1 h2)
        exact ⟨by rw [← HR.out, decide_eq_true this]; rfl, HB.out⟩
  · have HL : Hid (l ≠ m) := fun e => hlen (by rw [e])
    have hle2 : ((l.length : Int) == (m.length : Int)) = false := by rw [beq_eq_false_iff_ne]; omega
    clear hlen
    go_enter Try.func111, Try.ntmps111
    go_wp2_with fail
    go_ret
    exact ⟨by rw [← HR.out, decide_eq_false HL.out]; rfl, Below.refl _ _⟩
end C12
end Go.Proofs.Ytmmmaldpalhjeaa
namespace Go.Proofs.Ytmmmaldpalhjeaa
open Go.RowKit Go.Peri
namespace C12
theorem addr_add (b o j : Nat) : (⟨b, o, none⟩ : Addr).add j = ⟨b, o + j, none⟩ := by
  unfold Addr.add; split
  · rename_i hz; rw [hz]; rfl
  · rfl
theorem elemP : Elem Try.prog 58 146 3 40 := Elem.mk' (z := .agg #[.int .i64 0, .string ByteArray.empty, .string ByteArray.empty]) Try.underlying58 (by kernel_rfl) rfl (by decide)
set_option maxRecDepth 100000 in
theorem pclone_any {p : Nat → Prop} (v : Value) (l : List Prd) (W : World) (h : RowsOf p Prd.enc 3 W v l) (hp : ∀ b, p b → b < W.heap.size) (hl : l.length ≤ 1000000) :
    Calls Try.prog 150 #[v] W fun e w' => ∃ a cap, e = .returned (.slice a l.length cap) ∧ Below W.heap.size W w' ∧ Hid (w'.ownsRow W.heap.size 146 3 (.slice a l.length cap) l.length (l.flatMap Prd.enc)) := by
  have qnil : ∀ (w : World) (a : Option Addr) (n c : Nat), (binOp .eql 58 (.slice a n c) (.slice none 0 0)).run Try.prog w = .ok (.bool a.isNone) w := fun w a n c => Lib.run_eql_slice_nil w 58 146 a n c 0 0 Try.underlying58
  have HV := hid h
  have HP := hid hp
  obtain ⟨a, cap, rfl, hlc, hcm, hnn, _⟩ := h
  clear hp
  cases a with
  | none =>
    have hc0 := hnn rfl
    subst hc0
    have hl0 : l.length = 0 := by omega
    have hln : l = [] := List.length_eq_zero_iff.1 hl0
    subst hln
    go_enter Try.func150, Try.ntmps150
    go_wp2_with fail
    go_ret
    exact ⟨none, 0, rfl, Below.refl _ _, World.ownsRow_nil _ _ _ _⟩
  | some ad =>
    have HC : Hid (Cellz p 3 (W.alloc (.cells #[] 146)) (.slice (some ad) l.length cap) l.length (l.flatMap Prd.enc)) := (HV.out.below (B := W.heap.size) ((Below.refl _ W).alloc (Nat.le_refl _) _) HP.out).cellz Prd.enc_length
    go_enter Try.func150, Try.ntmps150
    go_wp2_with (at_builtin; refine wpList_pushCells elemP rfl _ _ rfl W.heap.size _ 0 [] rfl (World.ownsRow_made W #[] 0 (Nat.le_refl _) (Nat.zero_le _) (by simp)) rfl HC.out (Prd.one l) ?_ ?_ ?_ ?_)
    · unfold maxLen; omega
    · omega
    · simp
    intro v1 w1 hown hb
    have HB : Hid (Below W.heap.size W w1) := ((Below.refl _ W).alloc (Nat.le_refl _) _).trans hb
    have hown2 : w1.ownsRow W.heap.size 146 3 v1 l.length (l.flatMap Prd.enc) := by simpa using hown
    have hr : RowsOf (fun b => W.heap.size ≤ b ∧ b < w1.heap.size) Prd.enc 3 w1 v1 l := RowsOf.of_owns Prd.enc_length hown2
    have HR := hid hown2
    clear hown2
    obtain ⟨a1, cap1, rfl, _⟩ := hr
    clear hown hb
    go_wp2_with fail
    go_ret
    exact ⟨a1, cap1, rfl, HB.out, HR.out⟩
end C12
end Go.Proofs.Ytmmmaldpalhjeaa
namespace Go.Peri
open Go.RowKit
instance : Inhabited Rl := ⟨⟨0, none, 0, [], ByteArray.empty, 0, 0, 0, 0, 0, ByteArray.empty, 0⟩⟩
namespace Rl
/-- A rule but for where its predicates lie. -/
def core (r : Rl) : Rl := { r with pa := none, pcap := 0 }
theorem core_eq {a b : Rl} (h : a.core = b.core) : a.rank = b.rank ∧ a.preds = b.preds ∧ a.target = b.target ∧ a.ap = b.ap ∧ a.as_ = b.as_ ∧ a.dp = b.dp ∧ a.dt = b.dt ∧ a.mp = b.mp ∧ a.mirror = b.mirror ∧ a.sample = b.sample := by
  obtain ⟨⟩ := a
  obtain ⟨⟩ := b
  simp only [core, Rl.mk.injEq] at h
  simp only []
  exact ⟨h.1, h.2.2.2.1, h.2.2.2.2.1, h.2.2.2.2.2.1, h.2.2.2.2.2.2.1, h.2.2.2.2.2.2.2.1, h.2.2.2.2.2.2.2.2.1, h.2.2.2.2.2.2.2.2.2.1, h.2.2.2.2.2.2.2.2.2.2.1, h.2.2.2.2.2.2.2.2.2.2.2⟩
theorem core_of {a b : Rl} (h0 : a.rank = b.rank) (h1 : a.preds = b.preds) (h2 : a.target = b.target) (h3 : a.ap = b.ap) (h4 : a.as_ = b.as_) (h5 : a.dp = b.dp) (h6 : a.dt = b.dt) (h7 : a.mp = b.mp) (h8 : a.mirror = b.mirror) (h9 : a.sample = b.sample) : a.core = b.core := by
  obtain ⟨⟩ := a
  obtain ⟨⟩ := b
  simp only [core, Rl.mk.injEq]
  simp only [] at h0 h1 h2 h3 h4 h5 h6 h7 h8 h9
  exact ⟨h0, trivial, trivial, h1, h2, h3, h4, h5, h6, h7, h8, h9⟩
/-- Where the predicates read. -/
def At (p : Nat → Prop) (w : World) (r : Rl) : Prop := RowsOf p Prd.enc 3 w (.slice r.pa r.preds.length r.pcap) r.preds
theorem At.imp {p q : Nat → Prop} {w : World} {r : Rl} (h : At p w r) (hpq : ∀ b, p b → q b) : At q w r := RowsOf.imp h hpq
theorem At.only {p : Nat → Prop} {S : List Nat} {w w' : World} {r : Rl} (h : At p w r) (ho : Only S w w') (hp : ∀ b, p b → b < w.heap.size ∧ b ∉ S) : At p w' r := RowsOf.only h ho hp
theorem At.below {p : Nat → Prop} {B : Nat} {w w' : World} {r : Rl} (h : At p w r) (ho : Below B w w') (hp : ∀ b, p b → b < B) : At p w' r := RowsOf.below h ho hp
theorem Wf.at {w : World} {B : Nat} {r : Rl} (h : Wf w B r) : At (· < B) w r := h.rows
/-- What is known of a rule with predicates elsewhere. -/
theorem Wf.of_core {w w' : World} {B B' : Nat} {r s : Rl} (h : Wf w B r) (hc : s.core = r.core) (ha : At (· < B') w' s) : Wf w' B' s := by
  obtain ⟨h0, h1, h2, _, _, _, _, _, h8, _⟩ := core_eq hc
  exact ⟨ha, by rw [h1]; exact h.len, by rw [h1]; exact h.preds, by rw [h0]; exact h.rank, by rw [h2]; exact h.target, by rw [h8]; exact h.mirror⟩
end Rl
section
variable {α β : Type}
/-- One cell of a flat list. -/
theorem flat_set {enc : α → List Value} {k : Nat} (hk : ∀ x, (enc x).length = k) : ∀ (l : List α) (i : Nat) (hi : i < l.length) (j : Nat) (u : Value) (x : α), j < k → enc x = (enc l[i]).set j u → (l.flatMap enc).set (i * k + j) u = (l.set i x).flatMap enc
  | y :: l, 0, _, j, u, x, hj, hx => by
    rw [Nat.zero_mul, Nat.zero_add, List.flatMap_cons, List.set_append_left _ _ (by rw [hk]; exact hj), List.set_cons_zero, List.flatMap_cons, hx]
    rfl
  | y :: l, i + 1, hi, j, u, x, hj, hx => by
    rw [List.flatMap_cons, List.set_append_right _ _ (by rw [hk, Nat.succ_mul]; omega), hk, show (i + 1) * k + j - k = i * k + j by rw [Nat.succ_mul]; omega, List.set_cons_succ, List.flatMap_cons]
    congr 1
    exact flat_set hk l i (by simpa using hi) j u x hj hx
theorem set_mid (l1 : List α) (l : List α) (k : Nat) (h1 : l1.length = k) (hk : k < l.length) (x : α) : (l1 ++ l.drop k).set k x = (l1 ++ [x]) ++ l.drop (k + 1) := by
  subst h1
  rw [List.set_append_right _ _ (Nat.le_refl _), Nat.sub_self, List.drop_eq_getElem_cons hk, List.set_cons_zero]
  simp
theorem get_mid (l1 : List α) (l : List α) (k : Nat) (h1 : l1.length = k) (hk : k < l.length) (h : k < (l1 ++ l.drop k).length) : (l1 ++ l.drop k)[k] = l[k] := by
  subst h1
  rw [List.getElem_append_right (Nat.le_refl _)]
  simp
theorem map_take_snoc (f : α → β) (l1 l : List α) (k : Nat) (hk : k < l.length) (x : α) (h : l1.map f = (l.take k).map f) (hx : f x = f l[k]) : (l1 ++ [x]).map f = (l.take (k + 1)).map f := by
  rw [List.take_succ_eq_append_getElem hk, List.map_append, List.map_append, h, List.map_singleton, List.map_singleton, hx]
end
theorem owns_at {w : World} {base : Nat} {e : TypeId} {size n : Nat} {v : Value} {xs : List Value} (h : w.ownsRow base e size v n xs) (hn : 0 < n) : ∃ g cap, v = .slice (some ⟨g, 0, none⟩) n cap ∧ base ≤ g ∧ g < w.heap.size := by
  rcases h.2 with ⟨_, h0⟩ | ⟨g, cap, cur, hv, hb, hg, _⟩
  · omega
  · exact ⟨g, cap, hv, hb, (Array.getElem?_eq_some_iff.1 hg).1⟩
theorem owns_num {w : World} {base : Nat} {e : TypeId} {size : Nat} {v : Value} {n m : Nat} {xs : List Value} (hn : n = m) (h : w.ownsRow base e size v n xs) : w.ownsRow base e size v m xs := hn ▸ h
theorem owns_le {w : World} {base base' : Nat} {e : TypeId} {size : Nat} {v : Value} {n : Nat} {xs : List Value} (h : w.ownsRow base e size v n xs) (hb : base' ≤ base) : w.ownsRow base' e size v n xs :=
  ⟨h.1, h.2.imp id fun ⟨g, cap, cur, h1, h2, h3⟩ => ⟨g, cap, cur, h1, Nat.le_trans hb h2, h3⟩⟩
end Go.Peri
namespace Go.Proofs.Ytmmmaldpalhjeaa
open Go.RowKit Go.Peri
namespace C12
theorem elemR : Elem Try.prog 44 60 10 112 := Elem.mk' (z := .agg #[.int .i64 0, .slice none 0 0, .string ByteArray.empty, .int .i64 0, .int .i64 0, .int .i64 0, .int .i64 0, .int .i64 0, .string ByteArray.empty, .int .i64 0]) Try.underlying44 (by kernel_rfl) rfl (by decide)
set_option maxRecDepth 100000 in
theorem rlclone_any {p : Nat → Prop} (v : Value) (l : List Rl) (W : World) (h : RowsOf p Rl.enc 10 W v l) (hp : ∀ b, p b → b < W.heap.size) (hl : l.length ≤ 1000000) :
    Calls Try.prog 149 #[v] W fun e w' => ∃ a cap, e = .returned (.slice a l.length cap) ∧ Below W.heap.size W w' ∧ Hid (w'.ownsRow W.heap.size 60 10 (.slice a l.length cap) l.length (l.flatMap Rl.enc)) := by
  have qnil : ∀ (w : World) (a : Option Addr) (n c : Nat), (binOp .eql 44 (.slice a n c) (.slice none 0 0)).run Try.prog w = .ok (.bool a.isNone) w := fun w a n c => Lib.run_eql_slice_nil w 44 60 a n c 0 0 Try.underlying44
  have HV := hid h
  have HP := hid hp
  obtain ⟨a, cap, rfl, hlc, hcm, hnn, _⟩ := h
  clear hp
  cases a with
  | none =>
    have hc0 := hnn rfl
    subst hc0
    have hl0 : l.length = 0 := by omega
    have hln : l = [] := List.length_eq_zero_iff.1 hl0
    subst hln
    go_enter Try.func149, Try.ntmps149
    go_wp2_with fail
    go_ret
    exact ⟨none, 0, rfl, Below.refl _ _, World.ownsRow_nil _ _ _ _⟩
  | some ad =>
    have HC : Hid (Cellz p 10 (W.alloc (.cells #[] 60)) (.slice (some ad) l.length cap) l.length (l.flatMap Rl.enc)) := (HV.out.below (B := W.heap.size) ((Below.refl _ W).alloc (Nat.le_refl _) _) HP.out).cellz Rl.enc_length
    go_enter Try.func149, Try.ntmps149
    go_wp2_with (at_builtin; refine wpList_pushCells elemR rfl _ _ rfl W.heap.size _ 0 [] rfl (World.ownsRow_made W #[] 0 (Nat.le_refl _) (Nat.zero_le _) (by simp)) rfl HC.out (Rl.one l) ?_ ?_ ?_ ?_)
    · unfold maxLen; omega
    · omega
    · simp
    intro v1 w1 hown hb
    have HB : Hid (Below W.heap.size W w1) := ((Below.refl _ W).alloc (Nat.le_refl _) _).trans hb
    have hown2 : w1.ownsRow W.heap.size 60 10 v1 l.length (l.flatMap Rl.enc) := by simpa using hown
    have hr : RowsOf (fun b => W.heap.size ≤ b ∧ b < w1.heap.size) Rl.enc 10 w1 v1 l := RowsOf.of_owns Rl.enc_length hown2
    have HR := hid hown2
    clear hown2
    obtain ⟨a1, cap1, rfl, _⟩ := hr
    clear hown hb
    go_wp2_with fail
    go_ret
    exact ⟨a1, cap1, rfl, HB.out, HR.out⟩

/-- Rules copied: a row of their own, the predicates in rows of their own. -/
def Copied (W : World) (l : List Rl) (v : Value) (w' : World) : Prop :=
  ∃ l1 : List Rl, l1.map Rl.core = l.map Rl.core ∧ Below W.heap.size W w' ∧ w'.ownsRow W.heap.size 60 10 v l.length (l1.flatMap Rl.enc) ∧ ∀ x ∈ l1, x.At (fun b => W.heap.size ≤ b ∧ b < w'.heap.size ∧ b ∉ blocks v) w'
set_option maxRecDepth 100000 in
set_option maxHeartbeats 2000000 in
theorem copied_any {p : Nat → Prop} (v : Value) (l : List Rl) (W : World) (h : RowsOf p Rl.enc 10 W v l) (hp : ∀ b, p b → b < W.heap.size) (hl : l.length ≤ 1000000) (ha : ∀ x ∈ l, x.At (· < W.heap.size) W) (hps : ∀ x ∈ l, x.preds.length ≤ 1000000) :
    Calls Try.prog 108 #[v] W (Ret (Copied W l)) := by
  have HC := hid (rlclone_any v l W h hp hl)
  have HA := hid ha
  have HPS := hid hps
  obtain ⟨a, cap, rfl⟩ := h.form
  clear h ha hps hp
  go_enter Try.func108, Try.ntmps108
  go_wp2_with fail
  refine HC.out.mono ?_
  rintro e w1 ⟨a1, cap1, rfl, hb1, hown⟩
  have HB1 := hid hb1
  have HO := hid hown.out
  clear hown hb1 HC
  go_wp2_with fail
  go_loopw [10] (fun i wr => ∃ k : Nat, k ≤ l.length ∧ i = .int .i64 k ∧ Hid (∃ l1 : List Rl, l1.length = k ∧ l1.map Rl.core = (l.take k).map Rl.core ∧ Below W.heap.size W wr ∧ wr.ownsRow W.heap.size 60 10 (.slice a1 l.length cap1) l.length ((l1 ++ l.drop k).flatMap Rl.enc) ∧ ∀ x ∈ l1, x.At (fun b => W.heap.size ≤ b ∧ b < wr.heap.size ∧ b ∉ blocks (.slice a1 l.length cap1)) wr)) (fun i _ => l.length - (intOf i).toNat)
  case atStart => exact ⟨0, Nat.zero_le _, rfl, hid ⟨[], rfl, rfl, HB1.out, HO.out, fun x hx => by simp at hx⟩⟩
  case round =>
    obtain ⟨k, hk, rfl, hh⟩ := hrel
    by_cases hk2 : k < l.length
    · obtain ⟨l1, hl1, hc1, hb, hown, hat⟩ := hh.out
      clear hh
      obtain ⟨x, hx⟩ : ∃ x, l[k] = x := ⟨_, rfl⟩
      have hm : ∀ h : k < (l1 ++ l.drop k).length, (l1 ++ l.drop k)[k] = x := fun h => (get_mid l1 l k hl1 hk2 h).trans hx
      have hxa : x.At (· < W.heap.size) wr := (HA.out x (by rw [← hx]; exact List.getElem_mem hk2)).below hb (fun _ h => h)
      have hxl := HPS.out x (by rw [← hx]; exact List.getElem_mem hk2)
      obtain ⟨g, cap2, e2, hg1, hg2⟩ := owns_at hown (by omega)
      cases e2
      obtain ⟨cc0, cc1, cc2, cc3, cc4, cc5, cc6, cc7, cc8, cc9⟩ := Rl.cells (y := x) (w := wr) (b := g) (o := k * 10) (fun j u hj => by
        have hj2 : j < 10 := (List.getElem?_eq_some_iff.1 hj).1
        have hlen : (l1 ++ l.drop k).length = l.length := by rw [List.length_append, List.length_drop, hl1]; omega
        rw [hown.cellAt (k * 10 + j) (by omega), flat_get Rl.enc_length _ k (by omega) j hj2]
        rw [hm]
        exact hj)
      have HB := hid hb
      have HOW := hid hown
      have HAT := hid hat
      have HL1 := hid hl1
      have HC1 := hid hc1
      have HX := hid hx
      have HXA := hid hxa
      clear hm
      clear hb hown hat hc1 hx hxa
      clear hl1
      obtain ⟨B1, hB1⟩ : ∃ b, b = wr.alloc (.cells #[.int .i64 x.rank, .slice x.pa x.preds.length x.pcap, .string x.target, .int .i64 x.ap, .int .i64 x.as_, .int .i64 x.dp, .int .i64 x.dt, .int .i64 x.mp, .string x.mirror, .int .i64 x.sample] 60) := ⟨_, rfl⟩
      have hbb : Below wr.heap.size wr B1 := by rw [hB1]; go_grown
      have HPC := hid (pclone_any (p := (· < W.heap.size)) _ x.preds B1 (RowsOf.below (HXA.out) hbb (fun b hb => Nat.lt_of_lt_of_le hb HB.out.size)) (fun b hb => Nat.lt_of_lt_of_le hb (Nat.le_trans HB.out.size hbb.size)) hxl)
      have HBB := hid hbb
      have HE1 := hid hB1
      clear hbb
      rw [hB1] at HPC
      clear hB1
      go_wp2_with fail
      refine HPC.out.mono ?_
      rintro e w3 ⟨pa, pcap, rfl, hb3, hown3⟩
      rw [← HE1.out] at hb3 hown3
      have HB3 := hid (HBB.out.trans (hb3.mono HBB.out.size))
      have HO3 := hid hown3.out
      have hown4 := C04.owns_below HOW.out HB3.out
      have hcl : w3.cell? ⟨g, k * 10 + 1, none⟩ = some (.slice x.pa x.preds.length x.pcap) := by rw [(HB3.out.cell (p := ⟨g, k * 10 + 1, none⟩) hg2)]; exact cc1
      have hfz : w3.frozen? ⟨g, k * 10 + 1, none⟩ = false := hown4.frozenAt _
      have hsz := hb3.size
      have HSZ : wr.heap.size < B1.heap.size := by rw [HE1.out]; simp
      have HR : Hid (∃ l2 : List Rl, l2.length = k + 1 ∧ l2.map Rl.core = (l.take (k + 1)).map Rl.core ∧ Below W.heap.size W (w3.setCell ⟨g, k * 10 + 1, none⟩ (.slice pa x.preds.length pcap)) ∧ (w3.setCell ⟨g, k * 10 + 1, none⟩ (.slice pa x.preds.length pcap)).ownsRow W.heap.size 60 10 (.slice (some ⟨g, 0, none⟩) l.length cap1) l.length ((l2 ++ l.drop (k + 1)).flatMap Rl.enc) ∧ ∀ y ∈ l2, y.At (fun b => W.heap.size ≤ b ∧ b < (w3.setCell ⟨g, k * 10 + 1, none⟩ (.slice pa x.preds.length pcap)).heap.size ∧ b ∉ blocks (.slice (some ⟨g, 0, none⟩) l.length cap1)) (w3.setCell ⟨g, k * 10 + 1, none⟩ (.slice pa x.preds.length pcap))) := by
        have hlen : (l1 ++ l.drop k).length = l.length := by rw [List.length_append, List.length_drop, HL1.out]; omega
        have hon : Only [g] wr (w3.setCell ⟨g, k * 10 + 1, none⟩ (.slice pa x.preds.length pcap)) := (Only.of_below HB3.out).setCell (by simp) _
        have hon3 : Only [g] w3 (w3.setCell ⟨g, k * 10 + 1, none⟩ (.slice pa x.preds.length pcap)) := (Only.refl _ _).setCell (by simp) _
        have hgb : ∀ b, b ∉ blocks (.slice (some ⟨g, 0, none⟩) l.length cap1) ↔ b ≠ g := fun b => by simp [blocks, Value.ownBlock]
        refine ⟨l1 ++ [{ x with pa := pa, pcap := pcap }], by simp [HL1.out], ?_, ?_, ?_, ?_⟩
        · exact map_take_snoc Rl.core l1 l k hk2 _ HC1.out (by rw [HX.out]; rfl)
        · exact HB.out.trans (hon.below HB.out.size (fun b hb => by simp at hb; omega))
        · have hst := (hown4.stored (k * 10 + 1) (.slice pa x.preds.length pcap)).1
          rw [flat_set Rl.enc_length _ k (by omega) 1 _ { x with pa := pa, pcap := pcap } (by decide) (by rw [get_mid l1 l k HL1.out hk2 (by omega), HX.out]; rfl), set_mid l1 l k HL1.out hk2] at hst
          exact hst
        · intro y hy
          rcases List.mem_append.1 hy with hy | hy
          · exact ((HAT.out y hy).only hon (fun b hb => ⟨hb.2.1, by have := (hgb b).1 hb.2.2; simpa using this⟩)).imp (fun b hb => ⟨hb.1, Nat.lt_of_lt_of_le hb.2.1 hon.size, hb.2.2⟩)
          · obtain rfl : y = { x with pa := pa, pcap := pcap } := by simpa using hy
            have h0 : Rl.At (fun b => B1.heap.size ≤ b ∧ b < w3.heap.size) w3 { x with pa := pa, pcap := pcap } := RowsOf.of_owns Prd.enc_length HO3.out
            refine (h0.only hon3 (fun b hb => ⟨hb.2, by simp; omega⟩)).imp (fun b hb => ⟨by have := HB.out.size; omega, Nat.lt_of_lt_of_le hb.2 hon3.size, (hgb b).2 (by omega)⟩)
      clear hb3 hown3 hown4 HPC cc0 cc1 cc2 cc3 cc4 cc5 cc6 cc7 cc8 cc9
      go_wp2_with fail
      go_roundw
      case rel => exact ⟨k + 1, by omega, by go_num, HR⟩
      case measure => simp [intOf]; omega
    · obtain rfl : k = l.length := by omega
      obtain ⟨l1, hl1, hc1, hb, hown, hat⟩ := hh.out
      rw [List.take_length] at hc1
      rw [List.drop_length, List.append_nil] at hown
      have HR := hid (show Copied W l (.slice a1 l.length cap1) wr from ⟨l1, hc1, hb, hown, hat⟩)
      clear hl1 hc1 hb hown hat hh
      go_wp2_with fail
      go_ret
      exact ⟨_, rfl, HR.out⟩
end C12
end Go.Proofs.Ytmmmaldpalhjeaa
namespace Go.Proofs.Ytmmmaldpalhjeaa
open Go.RowKit Go.Peri
namespace C12
/-- What the order says of two ranks. -/
def cmpR (x y : Int) : Int := if y < x then -1 else if x < y then 1 else 0
set_option maxRecDepth 100000 in
theorem cmp_any (v0 v1 v2 v3 v4 v5 v6 v7 v8 u0 u1 u2 u3 u4 u5 u6 u7 u8 : Value) (x y c : Int) (w : World) (hc : cmpR x y = c) :
    Calls Try.prog 110 #[.agg #[.int .i64 x, v0, v1, v2, v3, v4, v5, v6, v7, v8], .agg #[.int .i64 y, u0, u1, u2, u3, u4, u5, u6, u7, u8]] w fun e w' => e = .returned (.int .i64 c) ∧ Below w.heap.size w w' := by
  unfold cmpR at hc
  by_cases h1 : y < x
  · rw [if_pos h1] at hc
    subst hc
    go_enter Try.func110, Try.ntmps110
    go_wp2
    go_ret
    exact ⟨rfl, by go_grown⟩
  rw [if_neg h1] at hc
  by_cases h2 : x < y
  · rw [if_pos h2] at hc
    subst hc
    go_enter Try.func110, Try.ntmps110
    go_wp2
    go_ret
    exact ⟨rfl, by go_grown⟩
  rw [if_neg h2] at hc
  subst hc
  go_enter Try.func110, Try.ntmps110
  go_wp2
  go_ret
  exact ⟨rfl, by go_grown⟩
end C12
end Go.Proofs.Ytmmmaldpalhjeaa
