/- Walks of layer 25 (buffer): a span put; how many wait, how many were lost; no condition. -/
import Derived.Test.YtefaegoajjcfjaaC25
import Derived.StillTailTactics
import Derived.Laws.LoneSync
import Derived.Maps.AppendAt
namespace Go.Peri
open Go.RowKit
theorem Only.of_grown {w w' : World} {row : Option Nat} (h : w.grownBy w' row) : Only row.toList w w' :=
  ⟨h.os, h.tape, h.output, h.size, fun k hk hs => h.block k hk (by rintro rfl; simp at hs)⟩
/-- 'append(out, x)' with where the new row lies, inside a region that draws its order. -/
theorem step_push_at {P : Program} {t e : TypeId} {size bytes : Nat} (E : Elem P t e size bytes) {ops : Array Oper} {o : Oper} {a : Act} {Q : Exit → Act → World → Prop} {K : Act → World → Prop} {X : Prop} {w w0 : World} (hgd : o.guard = none) (s x : Operand)
    (ho : o.op = .call { callee := .builtin .append, args := #[s, x], argTypes := #[t, t] }) (base : Nat) (v : Value) (n : Nat) (xs news : List Value) (hs : a.eval s = v) (hown : w0.ownsRow base e size v n xs) {T : TypeId}
    (hw : w = w0.alloc (.cells news.toArray T)) (hx : a.eval x = .slice (some ⟨w0.heap.size, 0, none⟩) 1 1) (hl : news.length = size) (h1 : ∀ u ∈ news, u.oneCell' = true)
    (h63 : n + 1 ≤ maxLen) (hbytes : (n + 1) * bytes ≤ 140737488355328) (hbase : base ≤ w0.heap.size)
    (h : ∀ hb cap w', w'.ownsRow base e size (.slice (some ⟨hb, 0, none⟩) (n + 1) cap) (n + 1) (xs ++ news) → Only v.ownBlock.toList w0 w' → (some hb = v.ownBlock ∨ w0.heap.size ≤ hb) → K (a.put o.dst (.slice (some ⟨hb, 0, none⟩) (n + 1) cap)) w') :
    if Region.wanted o (yielded ops a.tmps) = true then Oper.wp P o a w K Q else X := by
  have hwant : Region.wanted o (yielded ops a.tmps) = true := by simp [Region.wanted, hgd]
  rw [if_pos hwant]
  subst hw
  obtain ⟨i, z, hi, hz, hsz, hby, hzs⟩ := E.info
  obtain ⟨v', w', hr, h2, h3, _, h5⟩ := run_append_own_at (P := P) (w0.alloc (.cells news.toArray T)) base t o.type e i z size bytes E.under hi hz hsz hby hzs E.pos v n xs (hown.alloc _) ⟨w0.heap.size, 0, none⟩ 1 1 news (by omega) (by
    intro j u hj
    have e1 : (⟨w0.heap.size, 0, none⟩ : Addr).add j = ⟨w0.heap.size, j, none⟩ := by
      unfold Addr.add; split
      · rename_i hz; rw [hz]
      · simp
    rw [e1, World.cell?_alloc_new]
    simpa using hj) h1 h63 hbytes (by simp; omega)
  have hform : ∃ hb cap, v' = .slice (some ⟨hb, 0, none⟩) (n + 1) cap := by
    rcases h2.2 with ⟨_, h0⟩ | ⟨g, cap, cur, rfl, _⟩
    · omega
    · exact ⟨g, cap, rfl⟩
  obtain ⟨hb, cap, rfl⟩ := hform
  have hK := h hb cap w' h2 ((Only.refl _ w0).alloc _ |>.trans (Only.of_grown h3)) (by
    rcases h5 with h5 | h5
    · exact .inl h5
    · simp [Value.ownBlock] at h5; exact .inr (by omega))
  unfold Oper.wp execOp
  simp only [ho, resolve, invoke, builtin, Sem.run_bind, Sem.run_pure, Result.andThen_ok, List.map_toArray, List.map_cons, List.map_nil, hs, hx, hr]
  exact hK
end Go.Peri
namespace Go.Proofs.Ytefaegoajjcfjaa
open Go.RowKit Go.Peri
namespace C25

theorem load_any (g k : Nat) (x : Int) (w : World) (hc : w.cell? ⟨g, k, none⟩ = some (.int .i64 x)) :
    Calls Try.prog 68 #[.pointer (some ⟨g, k, none⟩)] w fun e w' => e = .returned (.int .i64 x) ∧ w = w' := by
  have hl := run_call_load (P := Try.prog) Try.func76 (by kernel_rfl) (by kernel_rfl) (by kernel_rfl) .i64 (by kernel_rfl) hc
  go_enter Try.func68, Try.ntmps68
  go_wp2
  go_ret
  exact ⟨rfl, rfl⟩
theorem store_any (g k : Nat) (x : Int) (u : Value) (w : World) (hc : w.cell? ⟨g, k, none⟩ = some u) (hz : w.frozen? ⟨g, k, none⟩ = false) :
    Calls Try.prog 71 #[.pointer (some ⟨g, k, none⟩), .int .i64 x] w fun e w' => e = .returned (.tuple #[]) ∧ w.setCell ⟨g, k, none⟩ (.int .i64 x) = w' := by
  have hl := run_call_store (P := Try.prog) Try.func77 (by kernel_rfl) (by kernel_rfl) (by kernel_rfl) (by kernel_rfl) (k := .i64) (y := x) hc hz
  go_enter Try.func71, Try.ntmps71
  go_wp2
  go_end0
  exact ⟨rfl, rfl⟩

theorem BufIs.drew {w : World} {g : Nat} {h : Option Nat} {room : Nat} {l : List Sp} {lost : Int} (hb : BufIs w g h room l lost) : BufIs w.drew g h room l lost := hb
theorem BufIs.form {w : World} {g : Nat} {h : Option Nat} {room : Nat} {l : List Sp} {lost : Int} (hb : BufIs w g h room l lost) : ∃ a cap, (Value.slice a l.length cap).ownBlock = h ∧ Blk w g #[.int .i64 room, .slice a l.length cap, .int .i64 lost] 123 ∧ w.ownsRow (g + 1) 79 11 (.slice a l.length cap) l.length (l.flatMap Sp.enc) ∧ l.length ≤ room ∧ room ≤ 64 ∧ 0 ≤ lost ∧ lost ≤ 1099511627776 := by
  obtain ⟨v, h1, h2, h3, h4⟩ := hb
  have hf : ∃ a cap, v = .slice a l.length cap := by
    rcases h3.2 with ⟨h5, h0⟩ | ⟨gg, cap, cur, rfl, _⟩
    · rw [h5, h0]; exact ⟨none, 0, rfl⟩
    · exact ⟨_, cap, rfl⟩
  obtain ⟨a, cap, rfl⟩ := hf
  exact ⟨a, cap, h1, h2, h3, h4⟩

set_option maxRecDepth 100000 in
theorem len_any (g : Nat) (h : Option Nat) (room : Nat) (l : List Sp) (lost : Int) (w : World) (hb : BufIs w g h room l lost) :
    Calls Try.prog 55 #[.pointer (some ⟨g, 0, none⟩)] w fun e w' => e = .returned (.int .i64 l.length) ∧ w = w' := by
  obtain ⟨a, cap, _, h2, _⟩ := hb.form
  have c1 : w.cell? ⟨g, 1, none⟩ = some (.slice a l.length cap) := h2.cell 1
  clear h2 hb
  go_enter Try.func55, Try.ntmps55
  go_wp2
  go_ret
  exact ⟨rfl, rfl⟩
set_option maxRecDepth 100000 in
theorem lost_any (g : Nat) (h : Option Nat) (room : Nat) (l : List Sp) (lost : Int) (w : World) (hb : BufIs w g h room l lost) :
    Calls Try.prog 56 #[.pointer (some ⟨g, 0, none⟩)] w fun e w' => e = .returned (.int .i64 lost) ∧ w = w' := by
  obtain ⟨a, cap, _, h2, _⟩ := hb.form
  have c2 : w.cell? ⟨g, 2, none⟩ = some (.int .i64 lost) := h2.cell 2
  clear h2 hb
  go_enter Try.func56, Try.ntmps56
  go_wp2_with (go_at_call 68; refine (load_any _ _ _ _ c2).mono ?_; rintro e w' ⟨rfl, rfl⟩)
  go_ret
  exact ⟨rfl, rfl⟩
set_option maxRecDepth 100000 in
theorem all_any (g : Nat) (h : Option Nat) (room : Nat) (l : List Sp) (lost : Int) (w : World) (hb : BufIs w g h room l lost) :
    Calls Try.prog 54 #[.pointer (some ⟨g, 0, none⟩)] w fun e w' => ∃ a cap, e = .returned (.slice a l.length cap) ∧ Below w.heap.size w w' ∧ Hid (RowsOf (fun b => w.heap.size ≤ b ∧ b < w'.heap.size) Sp.enc 11 w' (.slice a l.length cap) l) := by
  obtain ⟨a, cap, _, h2, h3, h4, h5, _⟩ := hb.form
  have c1 : w.cell? ⟨g, 1, none⟩ = some (.slice a l.length cap) := h2.cell 1
  have HR := hid (RowsOf.of_owns Sp.enc_length h3)
  have hl : l.length ≤ 1000000 := by omega
  clear h2 h3 hb
  go_enter Try.func54, Try.ntmps54
  go_wp2_with fail
  refine (clone_any _ l _ HR.out (fun b h => h.2) hl).mono ?_
  rintro e w1 ⟨a1, cap1, rfl, hb1, HL⟩
  have HB := hid hb1
  clear hb1
  go_wp2_with fail
  go_ret
  exact ⟨a1, cap1, rfl, HB.out, RowsOf.of_owns Sp.enc_length HL.out⟩
theorem nil_put (w : World) : Calls Try.prog 53 #[.pointer none, .agg #[.int .u64 0, .int .u64 0, .int .u64 0, .int .u64 0, .string ⟨#[]⟩, .int .i64 0, .int .i64 0, .int .i64 0, .bool false, .int .i64 0, .int .i64 0]] w fun e w' => e = .returned (.bool false) ∧ Below w.heap.size w w' := by
  go_enter Try.func53, Try.ntmps53
  go_wp2
  go_ret
  exact ⟨rfl, by go_grown⟩
theorem nil_take (w : World) : Calls Try.prog 51 #[.pointer none, .int .i64 1] w fun e w' => e = .returned (.slice none 0 0) ∧ w = w' := by
  go_enter Try.func51, Try.ntmps51
  go_wp2
  go_ret
  exact ⟨rfl, rfl⟩
theorem nil_all (w : World) : Calls Try.prog 54 #[.pointer none] w fun e w' => e = .returned (.slice none 0 0) ∧ w = w' := by
  go_enter Try.func54, Try.ntmps54
  go_wp2
  go_ret
  exact ⟨rfl, rfl⟩
theorem nil_len (w : World) : Calls Try.prog 55 #[.pointer none] w fun e w' => e = .returned (.int .i64 0) ∧ w = w' := by
  go_enter Try.func55, Try.ntmps55
  go_wp2
  go_ret
  exact ⟨rfl, rfl⟩
theorem nil_lost (w : World) : Calls Try.prog 56 #[.pointer none] w fun e w' => e = .returned (.int .i64 0) ∧ w = w' := by
  go_enter Try.func56, Try.ntmps56
  go_wp2
  go_ret
  exact ⟨rfl, rfl⟩

/-- The blocks of a buffer. -/
def own (g : Nat) (h : Option Nat) : List Nat := g :: h.toList
/-- The row is where it was, or new. -/
def Moved (w : World) (h h' : Option Nat) : Prop := h' = h ∨ ∃ b, h' = some b ∧ w.heap.size ≤ b

set_option maxRecDepth 100000 in
set_option maxHeartbeats 4000000 in
theorem put_full (g : Nat) (h : Option Nat) (room : Nat) (l : List Sp) (lost : Int) (s : Sp) (w : World) (hb : BufIs w g h room l lost) (hf : l.length = room) :
    Calls Try.prog 53 #[.pointer (some ⟨g, 0, none⟩), .agg #[.int .u64 s.hi, .int .u64 s.lo, .int .u64 s.id, .int .u64 s.up, .string s.name, .int .i64 s.status, .int .i64 s.seq, .int .i64 s.kids, .bool s.shadow, .int .i64 s.start, .int .i64 s.stop]] w fun e w' =>
      e = .returned (.bool false) ∧ Only (own g h) w w' ∧ BufIs w' g h room l (min (lost + 1) 1099511627776) := by
  obtain ⟨a, cap, e1, h2, h3, h4, h5, h6, h7⟩ := hb.form
  have hgl := h2.lt
  have hr1 : (room : Int) ≤ (l.length : Int) := by omega
  have c0 : w.cell? ⟨g, 0, none⟩ = some (.int .i64 room) := h2.cell 0
  have c1 : w.cell? ⟨g, 1, none⟩ = some (.slice a l.length cap) := h2.cell 1
  have hne : ¬ g = w.heap.size := by omega
  have hwr : IntKind.i64.wrap (lost + 1) = lost + 1 := IntWalk.i64_in _ (by omega)
  have hB : Blk ((w.alloc (.cells #[.int .u64 s.hi, .int .u64 s.lo, .int .u64 s.id, .int .u64 s.up, .string s.name, .int .i64 s.status, .int .i64 s.seq, .int .i64 s.kids, .bool s.shadow, .int .i64 s.start, .int .i64 s.stop] 79)).drew.drew) g #[.int .i64 room, .slice a l.length cap, .int .i64 lost] 123 := h2.alloc _
  have c2 : ((w.alloc (.cells #[.int .u64 s.hi, .int .u64 s.lo, .int .u64 s.id, .int .u64 s.up, .string s.name, .int .i64 s.status, .int .i64 s.seq, .int .i64 s.kids, .bool s.shadow, .int .i64 s.start, .int .i64 s.stop] 79)).drew.drew).cell? ⟨g, 2, none⟩ = some (.int .i64 lost) := hB.cell 2
  have f2 := hB.free 2
  have fin : ∀ m : Int, m = min (lost + 1) 1099511627776 → Only (own g h) w ((w.setCell ⟨g, 2, none⟩ (.int .i64 m)).alloc (.cells #[.int .u64 s.hi, .int .u64 s.lo, .int .u64 s.id, .int .u64 s.up, .string s.name, .int .i64 s.status, .int .i64 s.seq, .int .i64 s.kids, .bool s.shadow, .int .i64 s.start, .int .i64 s.stop] 79)) ∧ BufIs ((w.setCell ⟨g, 2, none⟩ (.int .i64 m)).alloc (.cells #[.int .u64 s.hi, .int .u64 s.lo, .int .u64 s.id, .int .u64 s.up, .string s.name, .int .i64 s.status, .int .i64 s.seq, .int .i64 s.kids, .bool s.shadow, .int .i64 s.start, .int .i64 s.stop] 79)) g h room l (min (lost + 1) 1099511627776) := by
    rintro m rfl
    refine ⟨((Only.refl _ _).setCell (by simp [own]) _).alloc _, .slice a l.length cap, e1, (h2.set 2 _).alloc _, World.ownsRow.alloc ?_ _, h4, h5, by omega, by omega⟩
    obtain ⟨g1, g2⟩ := h3
    refine ⟨g1, g2.imp id ?_⟩
    rintro ⟨k, cp, cur, q1, q2, q3, q4⟩
    exact ⟨k, cp, cur, q1, q2, (Below.heap_setCell _ _ _ _ (by show k ≠ g; omega)).trans q3, q4⟩
  have HF := hid fin
  have HC2 := hid c2
  have HF2 := hid f2
  clear fin hB h2 h3 hb c2 f2
  by_cases hm : 1099511627776 < lost + 1
  all_goals
    go_enter Try.func53, Try.ntmps53
    go_wp2_with fail
    go_region_held3 (fun w' => w'.cell? ⟨g, 0, none⟩ = some (.int .i64 room) ∧ w'.cell? ⟨g, 1, none⟩ = some (.slice a l.length cap)) (go_keep) (fail)
    go_wp2_with fail
    refine wp_region_still_tail 9 (by kernel_rfl) (by kernel_rfl) ?_
    simp only [List.take_succ_cons, List.take_zero, List.drop_succ_cons, List.drop_zero]
    repeat still_step
    still_call ((load_any g 2 lost _ HC2.out).mono fun _ _ hh => ⟨hh.1, hh.2.symm⟩)
    repeat still_step
    refine wpStill_nil ?_
    change wpList _ _ _ _ _ ((w.alloc (.cells #[.int .u64 s.hi, .int .u64 s.lo, .int .u64 s.id, .int .u64 s.up, .string s.name, .int .i64 s.status, .int .i64 s.seq, .int .i64 s.kids, .bool s.shadow, .int .i64 s.start, .int .i64 s.stop] 79)).drew.drew)
    go_wp2_with fail
    refine (store_any g 2 _ _ ((w.alloc (.cells #[.int .u64 s.hi, .int .u64 s.lo, .int .u64 s.id, .int .u64 s.up, .string s.name, .int .i64 s.status, .int .i64 s.seq, .int .i64 s.kids, .bool s.shadow, .int .i64 s.start, .int .i64 s.stop] 79)).drew.drew) HC2.out HF2.out).mono ?_
    rintro e w' ⟨rfl, rfl⟩
    go_wp2_with fail
    go_ret
    first
      | exact ⟨rfl, (HF.out 1099511627776 (by omega)).1.drew.drew, (HF.out 1099511627776 (by omega)).2.drew.drew⟩
      | exact ⟨rfl, (HF.out (lost + 1) (by omega)).1.drew.drew, (HF.out (lost + 1) (by omega)).2.drew.drew⟩
end C25
end Go.Proofs.Ytefaegoajjcfjaa
