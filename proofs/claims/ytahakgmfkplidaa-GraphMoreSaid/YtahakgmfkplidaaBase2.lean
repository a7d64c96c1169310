/- General lemmas on worlds: which blocks may have turned; slices that read as lists; whole blocks. No program in sight. -/
import Derived.Test.YtahakgmfkplidaaBase
import Derived.StillTailTactics
import Derived.BigRegion
import Derived.Deep.RegionHeld3
import Derived.Laws.LoneSync
import Derived.Laws.AppendOwnNone
namespace Go.Peri
open Go.RowKit

/-- It returns a value of which Q holds (closed to the walk's simp). -/
def Ret (Q : Value → World → Prop) (e : Ending) (w' : World) : Prop := ∃ v, e = .returned v ∧ Q v w'

/-- Of what was there only the blocks in S may have turned. -/
structure Only (S : List Nat) (w w' : World) : Prop where
  os : w'.os = w.os
  tape : w'.tape = w.tape
  output : w'.output = w.output
  size : w.heap.size ≤ w'.heap.size
  block : ∀ k, k < w.heap.size → k ∉ S → w'.heap[k]? = w.heap[k]?

theorem Only.refl (S : List Nat) (w : World) : Only S w w := ⟨rfl, rfl, rfl, Nat.le_refl _, fun _ _ _ => rfl⟩
theorem Only.trans {S : List Nat} {a b c : World} (h : Only S a b) (k : Only S b c) : Only S a c :=
  ⟨k.os.trans h.os, k.tape.trans h.tape, k.output.trans h.output, Nat.le_trans h.size k.size, fun i hi hs => (k.block i (Nat.lt_of_lt_of_le hi h.size) hs).trans (h.block i hi hs)⟩
theorem Only.mono {S S' : List Nat} {a b : World} (h : Only S a b) (hs : ∀ k, k ∈ S → k ∈ S') : Only S' a b :=
  ⟨h.os, h.tape, h.output, h.size, fun i hi hn => h.block i hi (fun hm => hn (hs i hm))⟩
theorem Only.drew {S : List Nat} {a w : World} (h : Only S a w) : Only S a w.drew := ⟨h.os, h.tape, h.output, h.size, h.block⟩
theorem Only.drewN {S : List Nat} {a w : World} (h : Only S a w) (n : Nat) : Only S a (w.drewN n) := ⟨h.os, h.tape, h.output, h.size, h.block⟩
theorem Only.alloc {S : List Nat} {a w : World} (h : Only S a w) (o : Obj) : Only S a (w.alloc o) :=
  h.trans ⟨rfl, rfl, rfl, by simp, fun k hk _ => Below.heap_alloc _ _ _ hk⟩
theorem Only.setCell {S : List Nat} {a w : World} (h : Only S a w) {p : Addr} (hp : p.block ∈ S) (u : Value) : Only S a (w.setCell p u) :=
  h.trans ⟨rfl, rfl, rfl, by simp [World.setCell], fun k _ hk => Below.heap_setCell _ _ _ _ (fun e => hk (e ▸ hp))⟩
theorem Only.setNew {S : List Nat} {a w : World} (h : Only S a w) {p : Addr} (hp : a.heap.size ≤ p.block) (u : Value) : Only S a (w.setCell p u) :=
  ⟨h.os, h.tape, h.output, by simpa [World.setCell] using h.size, fun k hk hs => (Below.heap_setCell _ _ _ _ (by omega)).trans (h.block k hk hs)⟩
theorem Only.of_below {S : List Nat} {a b : World} (h : Below a.heap.size a b) : Only S a b := ⟨h.os, h.tape, h.output, h.size, fun k hk _ => h.block k hk⟩
theorem Only.below {S : List Nat} {a b : World} (h : Only S a b) {B : Nat} (hB : B ≤ a.heap.size) (hs : ∀ k, k ∈ S → B ≤ k) : Below B a b :=
  ⟨h.os, h.tape, h.output, h.size, fun k hk => h.block k (by omega) (fun hm => by have := hs k hm; omega)⟩
theorem Only.nil {a b : World} (h : Only [] a b) : Below a.heap.size a b := h.below (Nat.le_refl _) (by simp)
theorem Only.cell {S : List Nat} {a b : World} (h : Only S a b) {p : Addr} (hp : p.block < a.heap.size) (hn : p.block ∉ S) : b.cell? p = a.cell? p := World.cell?_of_block (h.block _ hp hn)
theorem Only.frozen {S : List Nat} {a b : World} (h : Only S a b) {p : Addr} (hp : p.block < a.heap.size) (hn : p.block ∉ S) : b.frozen? p = a.frozen? p := World.frozen?_of_block (h.block _ hp hn)

/-- A slice value that reads as a list of one-cell values; p says of its block what is known. -/
def Vals (p : Nat → Prop) (w : World) (v : Value) (xs : List Value) : Prop :=
  ∃ a cap, v = .slice a xs.length cap ∧ xs.length ≤ cap ∧ cap ≤ maxLen ∧ (a = none → cap = 0) ∧
    (xs = [] ∨ ∃ b off, a = some ⟨b, off, none⟩ ∧ p b ∧ ∀ i, i < xs.length → w.cell? ⟨b, off + i, none⟩ = some (xs.getD i undef))
theorem Vals.of_is {B : Nat} {w : World} {v : Value} {xs : List Value} (h : IsVals B w v xs) : Vals (· < B) w v xs := h
theorem Vals.imp {p q : Nat → Prop} {w : World} {v : Value} {xs : List Value} (h : Vals p w v xs) (hpq : ∀ b, p b → q b) : Vals q w v xs := by
  obtain ⟨a, cap, h1, h2, h3, h4, h5⟩ := h
  exact ⟨a, cap, h1, h2, h3, h4, h5.imp id fun ⟨b, off, g1, g2, g3⟩ => ⟨b, off, g1, hpq b g2, g3⟩⟩
theorem Vals.only {p : Nat → Prop} {S : List Nat} {w w' : World} {v : Value} {xs : List Value} (h : Vals p w v xs) (ho : Only S w w') (hp : ∀ b, p b → b < w.heap.size ∧ b ∉ S) : Vals p w' v xs := by
  obtain ⟨a, cap, h1, h2, h3, h4, h5⟩ := h
  exact ⟨a, cap, h1, h2, h3, h4, h5.imp id fun ⟨b, off, g1, g2, g3⟩ => ⟨b, off, g1, g2, fun i hi => (ho.cell (p := ⟨b, off + i, none⟩) (hp b g2).1 (hp b g2).2).trans (g3 i hi)⟩⟩
theorem Vals.below {p : Nat → Prop} {B : Nat} {w w' : World} {v : Value} {xs : List Value} (h : Vals p w v xs) (ho : Below B w w') (hp : ∀ b, p b → b < B) : Vals p w' v xs := by
  obtain ⟨a, cap, h1, h2, h3, h4, h5⟩ := h
  exact ⟨a, cap, h1, h2, h3, h4, h5.imp id fun ⟨b, off, g1, g2, g3⟩ => ⟨b, off, g1, g2, fun i hi => (ho.cell (p := ⟨b, off + i, none⟩) (hp b g2)).trans (g3 i hi)⟩⟩
theorem Vals.lt {p : Nat → Prop} {w : World} {v : Value} {xs : List Value} (h : Vals p w v xs) : Vals (fun b => p b ∧ b < w.heap.size) w v xs := by
  obtain ⟨a, cap, h1, h2, h3, h4, h5⟩ := h
  refine ⟨a, cap, h1, h2, h3, h4, ?_⟩
  by_cases hn : xs = []
  · exact .inl hn
  · rcases h5 with h5 | ⟨b, off, g1, g2, g3⟩
    · exact .inl h5
    · refine .inr ⟨b, off, g1, ⟨g2, ?_⟩, g3⟩
      have hl : 0 < xs.length := List.length_pos_iff.2 hn
      have := g3 0 hl
      have h9 := World.cells?_block (w := w) (base := 0) (a := ⟨b, off + 0, none⟩) (n := 1) (cs := [xs.getD 0 undef]) (ChangeShapes.cells?_one (Nat.zero_le _) this) (by omega)
      exact h9
theorem Vals.cells {p : Nat → Prop} {w w' : World} {v : Value} {xs : List Value} (h : Vals p w v xs) (hc : ∀ b o, p b → w'.cell? ⟨b, o, none⟩ = w.cell? ⟨b, o, none⟩) : Vals p w' v xs := by
  obtain ⟨a, cap, h1, h2, h3, h4, h5⟩ := h
  exact ⟨a, cap, h1, h2, h3, h4, h5.imp id fun ⟨b, off, g1, g2, g3⟩ => ⟨b, off, g1, g2, fun i hi => (hc b _ g2).trans (g3 i hi)⟩⟩
theorem Vals.nil (p : Nat → Prop) (w : World) : Vals p w (.slice none 0 0) [] := ⟨none, 0, rfl, Nat.le_refl _, Nat.zero_le _, fun _ => rfl, .inl rfl⟩

/-- A slice in new memory. -/
def NewVals (w : World) (xs : List Value) (v : Value) (w' : World) : Prop := Below w.heap.size w w' ∧ Vals (fun b => w.heap.size ≤ b ∧ b < w'.heap.size) w' v xs

/-- What append's laws leave, as a reading. -/
theorem Vals.of_owns {w : World} {base : Nat} {e : TypeId} {v : Value} {n : Nat} {xs : List Value} (h : w.ownsRow base e 1 v n xs) : Vals (fun b => base ≤ b ∧ b < w.heap.size) w v xs := by
  have hx := h
  obtain ⟨h1, h2⟩ := h
  rcases h2 with ⟨rfl, rfl⟩ | ⟨g, cap, cur, rfl, hg, hh, hn, hcap, hsz, htake⟩
  · simp at h1
    rw [h1]
    exact Vals.nil _ _
  · have hl : xs.length = n := by simpa using h1
    subst hl
    refine ⟨_, cap, rfl, hn, hcap, by simp, .inr ⟨g, 0, rfl, ⟨hg, ?_⟩, fun i hi => ?_⟩⟩
    · exact (Array.getElem?_eq_some_iff.1 hh).1
    · rw [Nat.zero_add, hx.cellAt i (by simpa using hi)]
      simp [List.getD, hi]

/-- A whole block of cells. -/
def Blk (w : World) (g : Nat) (cs : Array Value) (t : TypeId) : Prop := w.heap[g]? = some (.cells cs t (0, 0))
section
variable {w : World} {g : Nat} {cs : Array Value} {t : TypeId}
theorem Blk.cell (h : Blk w g cs t) (i : Nat) : w.cell? ⟨g, i, none⟩ = cs[i]? := by unfold Blk at h; simp [World.cell?, h]
theorem Blk.free (h : Blk w g cs t) (i : Nat) : w.frozen? ⟨g, i, none⟩ = false := by unfold Blk at h; simp [World.frozen?, h]
theorem Blk.lt (h : Blk w g cs t) : g < w.heap.size := (Array.getElem?_eq_some_iff.1 h).1
theorem Blk.drew (h : Blk w g cs t) : Blk w.drew g cs t := h
theorem Blk.drewN (h : Blk w g cs t) (n : Nat) : Blk (w.drewN n) g cs t := h
theorem Blk.alloc (h : Blk w g cs t) (o : Obj) : Blk (w.alloc o) g cs t := (Below.heap_alloc w o g h.lt).trans h
theorem Blk.new (w : World) (cs : Array Value) (t : TypeId) : Blk (w.alloc (.cells cs t)) w.heap.size cs t := (MapKept.heap_alloc w _).1
theorem Blk.new' (w : World) (cs : Array Value) (t : TypeId) {n : Nat} (hn : n = w.heap.size) : Blk (w.alloc (.cells cs t)) n cs t := by rw [hn]; exact Blk.new w cs t
theorem Blk.set (h : Blk w g cs t) (i : Nat) (v : Value) : Blk (w.setCell ⟨g, i, none⟩ v) g (cs.setIfInBounds i v) t := by
  unfold Blk at h ⊢
  simp only [World.setCell, Array.getElem?_modify]
  rw [if_pos trivial, h]
  rfl
theorem Blk.other (h : Blk w g cs t) {p : Addr} (hp : g ≠ p.block) (v : Value) : Blk (w.setCell p v) g cs t := (Below.heap_setCell w p v g hp).trans h
theorem Blk.only {S : List Nat} {w' : World} (h : Blk w g cs t) (ho : Only S w w') (hs : g ∉ S) : Blk w' g cs t := (ho.block g h.lt hs).trans h
theorem Blk.below {B : Nat} {w' : World} (h : Blk w g cs t) (hb : Below B w w') (hs : g < B) : Blk w' g cs t := (hb.block g hs).trans h
theorem Blk.later {w' : World} (h : Blk w g cs t) (hb : Below w.heap.size w w') : Blk w' g cs t := (hb.block g h.lt).trans h
theorem Blk.vals {xs : List Value} (h : Blk w g xs.toArray t) (hm : xs.length ≤ maxLen) : Vals (· = g) w (.slice (some ⟨g, 0, none⟩) xs.length xs.length) xs :=
  ⟨_, _, rfl, Nat.le_refl _, hm, by simp, .inr ⟨g, 0, rfl, rfl, fun i hi => by rw [Nat.zero_add, h.cell]; simp [hi]⟩⟩
end
end Go.Peri
namespace Go.Peri
open Go.RowKit
/-- An element type's row of the table. -/
structure Elem (P : Program) (t e : TypeId) (size bytes : Nat) : Prop where
  under : P.underlying t = some (.slice e)
  info : ∃ i z, P.info? e = some i ∧ i.zero = some z ∧ i.size = size ∧ i.bytes = bytes ∧ z.cells.size = size
  pos : 0 < size
theorem Elem.mk' {P : Program} {t e : TypeId} {size bytes : Nat} {z : Value} (under : P.underlying t = some (.slice e)) (h : (P.info? e).map (fun i => (i.zero, i.size, i.bytes)) = some (some z, size, bytes)) (hz : z.cells.size = size) (pos : 0 < size) : Elem P t e size bytes := by
  obtain ⟨i, hi, h1, h2, h3⟩ := info_parts h
  exact ⟨under, ⟨i, z, hi, h1, h2, h3, hz⟩, pos⟩

section
variable {P : Program}
/-- 'out = append(out, x)' where x has just been laid in a block of its own. -/
theorem wpList_push {t e : TypeId} {size bytes : Nat} (E : Elem P t e size bytes) {ops : Array Oper} {rest : List Oper} {o : Oper} {a : Act} {Q : Exit → Act → World → Prop} {w w0 : World} (hgd : o.guard = none) (s x : Operand)
    (ho : o.op = .call { callee := .builtin .append, args := #[s, x], argTypes := #[t, t] }) (base : Nat) (v : Value) (n : Nat) (xs news : List Value) (hs : a.eval s = v) (hown : w0.ownsRow base e size v n xs) {T : TypeId}
    (hw : w = w0.alloc (.cells news.toArray T)) (hx : a.eval x = .slice (some ⟨w0.heap.size, 0, none⟩) 1 1) (hl : news.length = size) (h1 : ∀ u ∈ news, u.oneCell' = true)
    (h63 : n + 1 ≤ maxLen) (hbytes : (n + 1) * bytes ≤ 140737488355328) (hbase : base ≤ w0.heap.size)
    (h : ∀ v' w', w'.ownsRow base e size v' (n + 1) (xs ++ news) → Below base w0 w' → wpList P ops Q rest (a.put o.dst v') w') : wpList P ops Q (o :: rest) a w := by
  subst hw
  obtain ⟨i, z, hi, hz, hsz, hby, hzs⟩ := E.info
  refine wpList_append_own (w0.alloc (.cells news.toArray T)) hgd s x t ho base e i z size bytes E.under hi hz hsz hby hzs E.pos v n xs hs (hown.alloc _) ⟨w0.heap.size, 0, none⟩ 1 1 news hx (by omega) ?_ h1 h63 hbytes (by simp; omega) ?_
  · intro j u hj
    have e1 : (⟨w0.heap.size, 0, none⟩ : Addr).add j = ⟨w0.heap.size, j, none⟩ := by
      unfold Addr.add; split
      · rename_i hz; rw [hz]
      · simp
    rw [e1, World.cell?_alloc_new]
    simpa using hj
  · intro v' w' hown' hgrow _
    refine h v' w' hown' ?_
    refine ((Below.refl base w0).alloc (by omega) _).grown hgrow (by simp; omega) ?_
    intro k hk
    exact (hown.lt k hk).1
/-- .. inside a region that draws its order. -/
theorem step_push {t e : TypeId} {size bytes : Nat} (E : Elem P t e size bytes) {ops : Array Oper} {o : Oper} {a : Act} {Q : Exit → Act → World → Prop} {K : Act → World → Prop} {X : Prop} {w w0 : World} (hgd : o.guard = none) (s x : Operand)
    (ho : o.op = .call { callee := .builtin .append, args := #[s, x], argTypes := #[t, t] }) (base : Nat) (v : Value) (n : Nat) (xs news : List Value) (hs : a.eval s = v) (hown : w0.ownsRow base e size v n xs) {T : TypeId}
    (hw : w = w0.alloc (.cells news.toArray T)) (hx : a.eval x = .slice (some ⟨w0.heap.size, 0, none⟩) 1 1) (hl : news.length = size) (h1 : ∀ u ∈ news, u.oneCell' = true)
    (h63 : n + 1 ≤ maxLen) (hbytes : (n + 1) * bytes ≤ 140737488355328) (hbase : base ≤ w0.heap.size)
    (h : ∀ v' w', w'.ownsRow base e size v' (n + 1) (xs ++ news) → Below base w0 w' → K (a.put o.dst v') w') :
    if Region.wanted o (yielded ops a.tmps) = true then Oper.wp P o a w K Q else X := by
  have hwant : Region.wanted o (yielded ops a.tmps) = true := by simp [Region.wanted, hgd]
  rw [if_pos hwant]
  subst hw
  obtain ⟨i, z, hi, hz, hsz, hby, hzs⟩ := E.info
  refine wp_append_own (w0.alloc (.cells news.toArray T)) s x t ho base e i z size bytes E.under hi hz hsz hby hzs E.pos v n xs hs (hown.alloc _) ⟨w0.heap.size, 0, none⟩ 1 1 news hx (by omega) ?_ h1 h63 hbytes (by simp; omega) ?_
  · intro j u hj
    have e1 : (⟨w0.heap.size, 0, none⟩ : Addr).add j = ⟨w0.heap.size, j, none⟩ := by
      unfold Addr.add; split
      · rename_i hz; rw [hz]
      · simp
    rw [e1, World.cell?_alloc_new]
    simpa using hj
  · intro v' w' hown' hgrow _
    refine h v' w' hown' ?_
    refine ((Below.refl base w0).alloc (by omega) _).grown hgrow (by simp; omega) ?_
    intro k hk
    exact (hown.lt k hk).1
/-- The same where nothing is appended, or a whole slice: 'append(out, ys...)'. -/
theorem wpList_pushes {t e : TypeId} {size bytes : Nat} (E : Elem P t e size bytes) {ops : Array Oper} {rest : List Oper} {o : Oper} {a : Act} {Q : Exit → Act → World → Prop} {w : World} (hgd : o.guard = none) (s x : Operand)
    (ho : o.op = .call { callee := .builtin .append, args := #[s, x], argTypes := #[t, t] }) (base : Nat) (v : Value) (n : Nat) (xs news : List Value) (hs : a.eval s = v) (hown : w.ownsRow base e size v n xs)
    (ad : Addr) (m c : Nat) (hx : a.eval x = .slice (some ad) m c) (hl : news.length = m * size) (hnews : ∀ j u, news[j]? = some u → w.cell? (ad.add j) = some u) (h1 : ∀ u ∈ news, u.oneCell' = true)
    (h63 : n + m ≤ maxLen) (hbytes : (n + m) * bytes ≤ 140737488355328) (hbase : base ≤ w.heap.size)
    (h : ∀ v' w', w'.ownsRow base e size v' (n + m) (xs ++ news) → Below base w w' → wpList P ops Q rest (a.put o.dst v') w') : wpList P ops Q (o :: rest) a w := by
  obtain ⟨i, z, hi, hz, hsz, hby, hzs⟩ := E.info
  refine wpList_append_own w hgd s x t ho base e i z size bytes E.under hi hz hsz hby hzs E.pos v n xs hs hown ad m c news hx hl hnews h1 h63 hbytes hbase ?_
  intro v' w' hown' hgrow _
  refine h v' w' hown' ((Below.refl base w).grown hgrow hbase ?_)
  intro k hk
  exact (hown.lt k hk).1
/-- make([]T, n). -/
theorem run_make_n (t e : TypeId) {i : TypeInfo} {z : Value} (ht : P.underlying t = some (.slice e)) (hi : P.info? e = some i) (hz : i.zero = some z)
    (n : Nat) (hbytes : i.bytes * n ≤ 281474976710656) (h63 : n ≤ 9223372036854775807) (w : World) :
    (Instr.makeSlice t (.int .i64 (n : Int)) (.int .i64 (n : Int))).run P w = .ok (.slice (some ⟨w.heap.size, 0, none⟩) n n) (w.alloc (.cells (madeCells z.cells (n * i.size)) e)) := by
  have hb : (i.bytes : Int) * (n : Int) ≤ 281474976710656 := by
    have h : ((i.bytes * n : Nat) : Int) ≤ 281474976710656 := by omega
    rwa [Int.natCast_mul] at h
  have hr := run_make (P := P) w t e i z ht hi hz .i64 .i64 n n (by omega) (by omega) hb (by omega)
  simp only [Int.toNat_natCast] at hr
  exact hr
end
end Go.Peri

namespace Go.Peri
open Go.RowKit
/-- A slice value of n elements, 'size' cells each, that reads as the list of its cells. -/
def Cellz (p : Nat → Prop) (size : Nat) (w : World) (v : Value) (n : Nat) (xs : List Value) : Prop :=
  xs.length = n * size ∧ ∃ a cap, v = .slice a n cap ∧ n ≤ cap ∧ cap ≤ maxLen ∧ (a = none → cap = 0) ∧
    (n = 0 ∨ ∃ b off, a = some ⟨b, off, none⟩ ∧ p b ∧ ∀ i, i < xs.length → w.cell? ⟨b, off + i, none⟩ = some (xs.getD i undef))
theorem Vals.cellz {p : Nat → Prop} {w : World} {v : Value} {xs : List Value} (h : Vals p w v xs) : Cellz p 1 w v xs.length xs := by
  obtain ⟨a, cap, h1, h2, h3, h4, h5⟩ := h
  exact ⟨by omega, a, cap, h1, h2, h3, h4, h5.imp (fun e => by rw [e]; rfl) id⟩
theorem Cellz.vals {p : Nat → Prop} {w : World} {v : Value} {n : Nat} {xs : List Value} (h : Cellz p 1 w v n xs) : Vals p w v xs := by
  obtain ⟨h0, a, cap, h1, h2, h3, h4, h5⟩ := h
  obtain rfl : n = xs.length := by omega
  exact ⟨a, cap, h1, h2, h3, h4, h5.imp (fun e => List.length_eq_zero_iff.1 e) id⟩
theorem Cellz.imp {p q : Nat → Prop} {size n : Nat} {w : World} {v : Value} {xs : List Value} (h : Cellz p size w v n xs) (hpq : ∀ b, p b → q b) : Cellz q size w v n xs := by
  obtain ⟨h0, a, cap, h1, h2, h3, h4, h5⟩ := h
  exact ⟨h0, a, cap, h1, h2, h3, h4, h5.imp id fun ⟨b, off, g1, g2, g3⟩ => ⟨b, off, g1, hpq b g2, g3⟩⟩
theorem Cellz.only {p : Nat → Prop} {size n : Nat} {S : List Nat} {w w' : World} {v : Value} {xs : List Value} (h : Cellz p size w v n xs) (ho : Only S w w') (hp : ∀ b, p b → b < w.heap.size ∧ b ∉ S) : Cellz p size w' v n xs := by
  obtain ⟨h0, a, cap, h1, h2, h3, h4, h5⟩ := h
  exact ⟨h0, a, cap, h1, h2, h3, h4, h5.imp id fun ⟨b, off, g1, g2, g3⟩ => ⟨b, off, g1, g2, fun i hi => (ho.cell (p := ⟨b, off + i, none⟩) (hp b g2).1 (hp b g2).2).trans (g3 i hi)⟩⟩
theorem Cellz.below {p : Nat → Prop} {size n B : Nat} {w w' : World} {v : Value} {xs : List Value} (h : Cellz p size w v n xs) (ho : Below B w w') (hp : ∀ b, p b → b < B) : Cellz p size w' v n xs := by
  obtain ⟨h0, a, cap, h1, h2, h3, h4, h5⟩ := h
  exact ⟨h0, a, cap, h1, h2, h3, h4, h5.imp id fun ⟨b, off, g1, g2, g3⟩ => ⟨b, off, g1, g2, fun i hi => (ho.cell (p := ⟨b, off + i, none⟩) (hp b g2)).trans (g3 i hi)⟩⟩
theorem Cellz.nil (p : Nat → Prop) (size : Nat) (w : World) : Cellz p size w (.slice none 0 0) 0 [] := ⟨by simp, none, 0, rfl, Nat.le_refl _, Nat.zero_le _, fun _ => rfl, .inl rfl⟩
theorem Cellz.lt {p : Nat → Prop} {size n : Nat} {w : World} {v : Value} {xs : List Value} (h : Cellz p size w v n xs) (hs : 0 < size) : Cellz (fun b => p b ∧ b < w.heap.size) size w v n xs := by
  obtain ⟨h0, a, cap, h1, h2, h3, h4, h5⟩ := h
  refine ⟨h0, a, cap, h1, h2, h3, h4, ?_⟩
  by_cases hn : n = 0
  · exact .inl hn
  · obtain ⟨b, off, g1, g2, g3⟩ := h5.resolve_left hn
    refine .inr ⟨b, off, g1, ⟨g2, ?_⟩, g3⟩
    have hl : 0 < xs.length := by rw [h0]; exact Nat.mul_pos (by omega) hs
    exact World.cells?_block (w := w) (base := 0) (a := ⟨b, off + 0, none⟩) (n := 1) (cs := [xs.getD 0 undef]) (ChangeShapes.cells?_one (Nat.zero_le _) (g3 0 hl)) (by omega)
theorem Cellz.of_owns {w : World} {base : Nat} {e : TypeId} {size : Nat} {v : Value} {n : Nat} {xs : List Value} (h : w.ownsRow base e size v n xs) : Cellz (fun b => base ≤ b ∧ b < w.heap.size) size w v n xs := by
  have hx := h
  obtain ⟨h1, h2⟩ := h
  refine ⟨h1, ?_⟩
  rcases h2 with ⟨rfl, rfl⟩ | ⟨g, cap, cur, rfl, hg, hh, hn, hcap, hsz, htake⟩
  · exact ⟨_, _, rfl, Nat.le_refl _, Nat.zero_le _, fun _ => rfl, .inl rfl⟩
  · refine ⟨_, cap, rfl, hn, hcap, by simp, .inr ⟨g, 0, rfl, ⟨hg, (Array.getElem?_eq_some_iff.1 hh).1⟩, fun i hi => ?_⟩⟩
    rw [Nat.zero_add, hx.cellAt i (by rw [← h1]; exact hi)]
    simp [List.getD, hi]

/-- 'out = append(out, ys...)'. -/
theorem wpList_pushCells {P : Program} {t e : TypeId} {size bytes : Nat} (E : Elem P t e size bytes) {ops : Array Oper} {rest : List Oper} {o : Oper} {a : Act} {Q : Exit → Act → World → Prop} {w : World} (hgd : o.guard = none) (s x : Operand)
    (ho : o.op = .call { callee := .builtin .append, args := #[s, x], argTypes := #[t, t] }) (base : Nat) (v : Value) (n : Nat) (xs : List Value) (hs : a.eval s = v) (hown : w.ownsRow base e size v n xs)
    {p : Nat → Prop} {m : Nat} {vx : Value} {news : List Value} (hx : a.eval x = vx) (hv : Cellz p size w vx m news) (h1 : ∀ u ∈ news, u.oneCell' = true)
    (h63 : n + m ≤ maxLen) (hbytes : (n + m) * bytes ≤ 140737488355328) (hbase : base ≤ w.heap.size)
    (h : ∀ v' w', w'.ownsRow base e size v' (n + m) (xs ++ news) → Below base w w' → wpList P ops Q rest (a.put o.dst v') w') : wpList P ops Q (o :: rest) a w := by
  obtain ⟨hl, ad, cap, rfl, hmc, hcm, hnone, hcell⟩ := hv
  obtain ⟨i, z, hi, hz, hsz, hby, hzs⟩ := E.info
  cases ad with
  | none =>
    have : cap = 0 := hnone rfl
    obtain rfl : m = 0 := by omega
    subst this
    have hn : news = [] := List.length_eq_zero_iff.1 (by simpa using hl)
    subst hn
    refine wpList_append_own_none hgd s x t ho base e i size E.under hi v n xs hs hown hx ?_
    have := h v w (by simpa using hown) (Below.refl _ _)
    exact this
  | some ad =>
    refine wpList_pushes E hgd s x ho base v n xs news hs hown ad m cap hx hl ?_ h1 h63 hbytes hbase h
    intro j u hj
    have hj' := (List.getElem?_eq_some_iff.1 hj).1
    have hm : m ≠ 0 := by rintro rfl; rw [hl] at hj'; simp at hj'
    obtain ⟨b, off, g1, _, g3⟩ := hcell.resolve_left hm
    cases g1
    have e1 : (⟨b, off, none⟩ : Addr).add j = ⟨b, off + j, none⟩ := by
      unfold Addr.add; split
      · rename_i hz; rw [hz]; rfl
      · rfl
    rw [e1, g3 j hj']
    rw [List.getD, hj]
    rfl
end Go.Peri
