/- Spans as plain data, and what cells of them read as. No program in sight. -/
import Derived.Test.YtahakgmfkplidaaRw
namespace Go.Peri
open Go.RowKit
/-- A span. -/
structure Sp where
  hi : Nat
  lo : Nat
  id : Nat
  up : Nat
  name : ByteArray
  status : Int
  seq : Int
  kids : Int
  shadow : Bool
  start : Int
  stop : Int
namespace Sp
def enc (s : Sp) : List Value := [.int .u64 s.hi, .int .u64 s.lo, .int .u64 s.id, .int .u64 s.up, .string s.name, .int .i64 s.status, .int .i64 s.seq, .int .i64 s.kids, .bool s.shadow, .int .i64 s.start, .int .i64 s.stop]
theorem enc_length (s : Sp) : s.enc.length = 11 := rfl
instance : DecidableEq Sp := fun a b =>
  if h : a.hi = b.hi ∧ a.lo = b.lo ∧ a.id = b.id ∧ a.up = b.up ∧ a.name = b.name ∧ a.status = b.status ∧ a.seq = b.seq ∧ a.kids = b.kids ∧ a.shadow = b.shadow ∧ a.start = b.start ∧ a.stop = b.stop then
    .isTrue (by obtain ⟨⟩ := a; obtain ⟨⟩ := b; simp_all)
  else .isFalse (by rintro rfl; simp at h)
/-- Its type. -/
def ty : Ty := .cons (.cons (.int .u64) (.cons (.int .u64) .nil)) (.cons (.int .u64) (.cons (.int .u64) (.cons .str (.cons (.int .i64) (.cons (.int .i64) (.cons (.int .i64) (.cons .bool (.cons (.int .i64) (.cons (.int .i64) .nil)))))))))
def I64 (n : Int) : Prop := -9223372036854775808 ≤ n ∧ n ≤ 9223372036854775807
def U64 (n : Nat) : Prop := n < 18446744073709551616
structure Wf (s : Sp) : Prop where
  hi : U64 s.hi
  lo : U64 s.lo
  id : U64 s.id
  up : U64 s.up
  name : s.name.size ≤ 140737488351232
  status : I64 s.status
  seq : I64 s.seq
  kids : I64 s.kids
  start : I64 s.start
  stop : I64 s.stop
theorem rd_u64 {w : World} {B : Nat} {cs : List Value} (h : Rd w B (.int .u64) cs) : ∃ n : Nat, cs = [.int .u64 n] ∧ U64 n := by
  obtain ⟨n, rfl, hw⟩ := h
  have h : IntKind.u64.min ≤ n ∧ n ≤ IntKind.u64.max := by simpa [Lit.wf] using hw
  obtain ⟨h1, h2⟩ : 0 ≤ n ∧ n ≤ 18446744073709551615 := h
  exact ⟨n.toNat, by rw [Int.toNat_of_nonneg h1], by unfold U64; omega⟩
theorem rd_i64 {w : World} {B : Nat} {cs : List Value} (h : Rd w B (.int .i64) cs) : ∃ n : Int, cs = [.int .i64 n] ∧ I64 n := by
  obtain ⟨n, rfl, hw⟩ := h
  have h : IntKind.i64.min ≤ n ∧ n ≤ IntKind.i64.max := by simpa [Lit.wf] using hw
  exact ⟨n, rfl, h⟩
theorem rd_str {w : World} {B : Nat} {cs : List Value} (h : Rd w B .str cs) : ∃ s : ByteArray, cs = [.string s] ∧ s.size ≤ 140737488351232 := by
  obtain ⟨s, rfl, _, h2⟩ := h
  exact ⟨s, rfl, h2⟩
theorem of_rd {w : World} {B : Nat} {cs : List Value} (h : Rd w B ty cs) : ∃ s : Sp, cs = s.enc ∧ Wf s := by
  obtain ⟨_, _, rfl, _, h1, h⟩ := h
  obtain ⟨_, _, rfl, _, a1, h1⟩ := h1
  obtain ⟨_, _, rfl, _, a2, h1⟩ := h1
  obtain ⟨_, _, rfl, _, a3, h⟩ := h
  obtain ⟨_, _, rfl, _, a4, h⟩ := h
  obtain ⟨_, _, rfl, _, a5, h⟩ := h
  obtain ⟨_, _, rfl, _, a6, h⟩ := h
  obtain ⟨_, _, rfl, _, a7, h⟩ := h
  obtain ⟨_, _, rfl, _, a8, h⟩ := h
  obtain ⟨_, _, rfl, _, a9, h⟩ := h
  obtain ⟨_, _, rfl, _, a10, h⟩ := h
  obtain ⟨_, _, rfl, _, a11, h⟩ := h
  obtain ⟨hi, rfl, g1⟩ := rd_u64 a1
  obtain ⟨lo, rfl, g2⟩ := rd_u64 a2
  obtain ⟨id, rfl, g3⟩ := rd_u64 a3
  obtain ⟨up, rfl, g4⟩ := rd_u64 a4
  obtain ⟨name, rfl, g5⟩ := rd_str a5
  obtain ⟨status, rfl, g6⟩ := rd_i64 a6
  obtain ⟨seq, rfl, g7⟩ := rd_i64 a7
  obtain ⟨kids, rfl, g8⟩ := rd_i64 a8
  obtain ⟨shadow, rfl⟩ := a9
  obtain ⟨start, rfl, g10⟩ := rd_i64 a10
  obtain ⟨stop, rfl, g11⟩ := rd_i64 a11
  have e1 : (_ : List Value) = [] := h1
  have e2 : (_ : List Value) = [] := h
  subst e1 e2
  exact ⟨⟨hi, lo, id, up, name, status, seq, kids, shadow, start, stop⟩, rfl, ⟨g1, g2, g3, g4, g5, g6, g7, g8, g10, g11⟩⟩
end Sp
/-- An open span: its number, and the span. -/
structure Opn where
  no : Int
  sp : Sp
namespace Opn
def enc (o : Opn) : List Value := .int .i64 o.no :: o.sp.enc
theorem enc_length (o : Opn) : o.enc.length = 12 := rfl
instance : DecidableEq Opn := fun a b =>
  if h : a.no = b.no ∧ a.sp = b.sp then .isTrue (by obtain ⟨⟩ := a; obtain ⟨⟩ := b; simp_all) else .isFalse (by rintro rfl; simp at h)
def ty : Ty := .cons (.int .i64) (.cons Sp.ty .nil)
structure Wf (o : Opn) : Prop where
  no : Sp.I64 o.no
  sp : o.sp.Wf
theorem of_rd {w : World} {B : Nat} {cs : List Value} (h : Rd w B ty cs) : ∃ o : Opn, cs = o.enc ∧ Wf o := by
  obtain ⟨_, _, rfl, _, a1, h⟩ := h
  obtain ⟨_, _, rfl, _, a2, h⟩ := h
  obtain ⟨n, rfl, g1⟩ := Sp.rd_i64 a1
  obtain ⟨s, rfl, g2⟩ := Sp.of_rd a2
  have e1 : (_ : List Value) = [] := h
  subst e1
  exact ⟨⟨n, s⟩, by simp [enc], ⟨g1, g2⟩⟩
end Opn
end Go.Peri
