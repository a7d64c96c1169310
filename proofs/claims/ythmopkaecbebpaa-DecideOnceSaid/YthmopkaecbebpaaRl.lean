/- Rules and tables as plain data, and what arguments read as. No program in sight. -/
import Derived.Test.YthmopkaecbebpaaPd
namespace Go.Peri
open Go.RowKit
/-- A rule: its predicates lie where pa says. -/
structure Rl where
  rank : Int
  pa : Option Addr
  pcap : Nat
  preds : List Prd
  target : ByteArray
  ap : Int
  as_ : Int
  dp : Int
  dt : Int
  mp : Int
  mirror : ByteArray
  sample : Int
namespace Rl
def enc (r : Rl) : List Value := [.int .i64 r.rank, .slice r.pa r.preds.length r.pcap, .string r.target, .int .i64 r.ap, .int .i64 r.as_, .int .i64 r.dp, .int .i64 r.dt, .int .i64 r.mp, .string r.mirror, .int .i64 r.sample]
theorem enc_length (r : Rl) : r.enc.length = 10 := rfl
def ty : Ty := .cons (.int .i64) (.cons (.slice 40 Prd.ty) (.cons .str (.cons (.int .i64) (.cons (.int .i64) (.cons (.int .i64) (.cons (.int .i64) (.cons (.int .i64) (.cons .str (.cons (.int .i64) .nil)))))))))
/-- What is known of a rule that came in. -/
structure Wf (w : World) (B : Nat) (r : Rl) : Prop where
  rows : RowsOf (· < B) Prd.enc 3 w (.slice r.pa r.preds.length r.pcap) r.preds
  len : r.preds.length * 40 ≤ 140737488351232
  preds : ∀ x ∈ r.preds, x.Wf
  rank : Sp.I64 r.rank
  target : r.target.size ≤ 140737488351232
  mirror : r.mirror.size ≤ 140737488351232
theorem Wf.below {w w' : World} {B : Nat} {r : Rl} (h : Wf w B r) (hb : Below B w w') : Wf w' B r := ⟨h.rows.below hb (fun _ h => h), h.len, h.preds, h.rank, h.target, h.mirror⟩
theorem of_rd {w : World} {B : Nat} {cs : List Value} (h : Rd w B ty cs) : ∃ r : Rl, cs = r.enc ∧ Wf w B r := by
  obtain ⟨_, _, rfl, _, a0, h⟩ := h
  obtain ⟨c1, _, rfl, hl1, a1, h⟩ := h
  obtain ⟨_, _, rfl, _, a2, h⟩ := h
  obtain ⟨_, _, rfl, _, a3, h⟩ := h
  obtain ⟨_, _, rfl, _, a4, h⟩ := h
  obtain ⟨_, _, rfl, _, a5, h⟩ := h
  obtain ⟨_, _, rfl, _, a6, h⟩ := h
  obtain ⟨_, _, rfl, _, a7, h⟩ := h
  obtain ⟨_, _, rfl, _, a8, h⟩ := h
  obtain ⟨_, _, rfl, _, a9, h⟩ := h
  obtain ⟨n0, rfl, g0⟩ := Sp.rd_i64 a0
  obtain ⟨t, rfl, g2⟩ := Hd.rd_str a2
  obtain ⟨n3, rfl, _⟩ := Sp.rd_i64 a3
  obtain ⟨n4, rfl, _⟩ := Sp.rd_i64 a4
  obtain ⟨n5, rfl, _⟩ := Sp.rd_i64 a5
  obtain ⟨n6, rfl, _⟩ := Sp.rd_i64 a6
  obtain ⟨n7, rfl, _⟩ := Sp.rd_i64 a7
  obtain ⟨m, rfl, g8⟩ := Hd.rd_str a8
  obtain ⟨n9, rfl, _⟩ := Sp.rd_i64 a9
  have e1 : (_ : List Value) = [] := h
  subst e1
  obtain ⟨v1, rfl⟩ : ∃ v, c1 = [v] := by
    match c1, hl1 with
    | [v], _ => exact ⟨v, rfl⟩
  obtain ⟨l, k1, k2, k3⟩ := preds_of_arg (v := v1) a1
  obtain ⟨a, cap, rfl⟩ : ∃ a cap, v1 = .slice a l.length cap := by
    obtain ⟨a, cap, e, _⟩ := k1
    exact ⟨a, cap, e⟩
  exact ⟨⟨n0, a, cap, l, t, n3, n4, n5, n6, n7, m, n9⟩, rfl, ⟨k1, k2, k3, g0, g2, g8⟩⟩
theorem cells {y : Rl} {w : World} {b o : Nat} (h : ∀ j u, y.enc[j]? = some u → w.cell? ⟨b, o + j, none⟩ = some u) :
    w.cell? ⟨b, o, none⟩ = some (.int .i64 y.rank) ∧ w.cell? ⟨b, o + 1, none⟩ = some (.slice y.pa y.preds.length y.pcap) ∧ w.cell? ⟨b, o + 2, none⟩ = some (.string y.target) ∧ w.cell? ⟨b, o + 3, none⟩ = some (.int .i64 y.ap) ∧ w.cell? ⟨b, o + 4, none⟩ = some (.int .i64 y.as_) ∧ w.cell? ⟨b, o + 5, none⟩ = some (.int .i64 y.dp) ∧ w.cell? ⟨b, o + 6, none⟩ = some (.int .i64 y.dt) ∧ w.cell? ⟨b, o + 7, none⟩ = some (.int .i64 y.mp) ∧ w.cell? ⟨b, o + 8, none⟩ = some (.string y.mirror) ∧ w.cell? ⟨b, o + 9, none⟩ = some (.int .i64 y.sample) :=
  ⟨h 0 _ rfl, h 1 _ rfl, h 2 _ rfl, h 3 _ rfl, h 4 _ rfl, h 5 _ rfl, h 6 _ rfl, h 7 _ rfl, h 8 _ rfl, h 9 _ rfl⟩
theorem one (l : List Rl) : ∀ u ∈ l.flatMap Rl.enc, u.oneCell' = true := by
  intro u hu
  obtain ⟨o, _, ho⟩ := List.mem_flatMap.1 hu
  simp only [Rl.enc, List.mem_cons, List.not_mem_nil, or_false] at ho
  rcases ho with rfl | rfl | rfl | rfl | rfl | rfl | rfl | rfl | rfl | rfl <;> rfl
def fewB (r : Rl) : Bool := Prd.few r.preds && decide (r.target.size + r.mirror.size ≤ 400)
def few (l : List Rl) : Bool := decide (l.length ≤ 40) && l.all fewB
theorem few_len {l : List Rl} (h : few l = true) : l.length ≤ 40 := by
  unfold few at h
  rw [Bool.and_eq_true] at h
  exact of_decide_eq_true h.1
theorem few_preds {l : List Rl} (h : few l = true) : ∀ r ∈ l, r.preds.length ≤ 20 := by
  unfold few at h
  rw [Bool.and_eq_true, List.all_eq_true] at h
  intro r hr
  have := h.2 r hr
  unfold fewB at this
  rw [Bool.and_eq_true] at this
  exact Prd.few_len this.1
end Rl
theorem rules_of_arg {w : World} {B : Nat} {v : Value} (h : Arg w B (.slice 112 Rl.ty) v) : ∃ l : List Rl, RowsOf (· < B) Rl.enc 10 w v l ∧ l.length * 112 ≤ 140737488351232 ∧ (∀ x ∈ l, x.Wf w B) := by
  obtain ⟨l, h1, h2, h3⟩ := rows_of_arg (enc := Rl.enc) (wf := Rl.Wf w B) (e := Rl.ty) (fun _ => rfl) (fun cs hc => Rl.of_rd hc) h
  exact ⟨l, h1, h2, h3⟩
/-- A table's version, rules, and format. -/
def tabTy : Ty := .cons (.int .i64) (.cons (.slice 112 Rl.ty) (.cons .str .nil))
structure TabV (w : World) (B : Nat) (l : List Rl) (a : Option Addr) (cap : Nat) (f : ByteArray) : Prop where
  rows : RowsOf (· < B) Rl.enc 10 w (.slice a l.length cap) l
  len : l.length * 112 ≤ 140737488351232
  wf : ∀ x ∈ l, x.Wf w B
  f : f.size ≤ 140737488351232
theorem TabV.below {w w' : World} {B : Nat} {l : List Rl} {a : Option Addr} {cap : Nat} {f : ByteArray} (h : TabV w B l a cap f) (hb : Below B w w') : TabV w' B l a cap f := ⟨h.rows.below hb (fun _ h => h), h.len, fun x hx => (h.wf x hx).below hb, h.f⟩
theorem tab_of_arg {w : World} {B : Nat} {v : Value} (h : Arg w B tabTy v) : ∃ (n : Int) (l : List Rl) (a : Option Addr) (cap : Nat) (f : ByteArray), v = .agg #[.int .i64 n, .slice a l.length cap, .string f] ∧ TabV w B l a cap f := by
  obtain ⟨cs, rfl, h⟩ : ∃ cs, v = .agg cs ∧ Rd w B tabTy cs.toList := h
  obtain ⟨_, _, e, _, a0, h⟩ := h
  obtain ⟨c1, _, rfl, hl1, a1, h⟩ := h
  obtain ⟨_, _, rfl, _, a2, h⟩ := h
  obtain ⟨n, rfl, _⟩ := Sp.rd_i64 a0
  obtain ⟨f, rfl, g2⟩ := Hd.rd_str a2
  have e1 : (_ : List Value) = [] := h
  subst e1
  obtain ⟨v1, rfl⟩ : ∃ v, c1 = [v] := by
    match c1, hl1 with
    | [v], _ => exact ⟨v, rfl⟩
  obtain ⟨l, k1, k2, k3⟩ := rules_of_arg (v := v1) a1
  obtain ⟨a, cap, rfl⟩ : ∃ a cap, v1 = .slice a l.length cap := by
    obtain ⟨a, cap, e, _⟩ := k1
    exact ⟨a, cap, e⟩
  refine ⟨n, l, a, cap, f, ?_, ⟨k1, k2, k3, g2⟩⟩
  congr 1
  apply Array.toList_inj.1
  rw [e]
  rfl
theorem i8s_three {w : World} {B : Nat} {v : Value} (h : Arg w B (.cons (.int .i8) (.cons (.int .i8) (.cons (.int .i8) .nil))) v) : ∃ a b c : Int, v = .agg #[.int .i8 a, .int .i8 b, .int .i8 c] ∧ (-128 ≤ a ∧ a ≤ 127) ∧ (-128 ≤ b ∧ b ≤ 127) ∧ (-128 ≤ c ∧ c ≤ 127) := by
  obtain ⟨cs, rfl, c1, c2, e, _, h1, c3, c4, e2, _, h2, c5, c6, e3, _, h3, h4⟩ := h
  obtain ⟨x, rfl, hx⟩ := h1
  obtain ⟨y, rfl, hy⟩ := h2
  obtain ⟨z, rfl, hz⟩ := h3
  have h5 : c6 = [] := h4
  subst h5
  have k : ∀ n : Int, (Lit.int .i8 n).wf = true → -128 ≤ n ∧ n ≤ 127 := fun n hw => by
    have h : IntKind.i8.min ≤ n ∧ n ≤ IntKind.i8.max := by simpa [Lit.wf] using hw
    exact h
  refine ⟨x, y, z, ?_, k x hx, k y hy, k z hz⟩
  congr 1
  apply Array.toList_inj.1
  rw [e, e2, e3]
  rfl
end Go.Peri
