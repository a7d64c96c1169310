/- Walks of layer 25 (buffer): put and taken, whatever there is; what must come of fixed calls; no condition. Walks of layer 27 (export): an exporter, made and given a span. Walks of layer 27 (export): an exporter is given a span. Walks of layer 27 (export): whether a new batch is to be sent. Walks of layer 27 (export): a new batch of what waits. -/
import Derived.Test.YtcohcanakicmpaaMg07
import Derived.OwnWalk
import Derived.BigQuiet
import Derived.Deep.DeepCutAuto
namespace Go.Peri
open Go.RowKit
end Go.Peri
namespace Go.Proofs.Ytcohcanakicmpaa
open Go.RowKit Go.Peri
namespace C25
def takeN {α : Type} (n : Int) (l : List α) : Nat := (max 0 (min n l.length)).toNat

theorem BufIs.own_ge {w : World} {g : Nat} {h : Option Nat} {room : Nat} {l : List Sp} {lost : Int} (hb : BufIs w g h room l lost) : ∀ k, k ∈ own g h → g ≤ k := by
  obtain ⟨v, h1, h2, h3, _⟩ := hb
  intro k hk
  simp only [own, List.mem_cons] at hk
  rcases hk with rfl | hk
  · exact Nat.le_refl _
  · rw [← h1] at hk
    have := (h3.lt k (by simpa using hk)).1
    omega
theorem BufIs.lt {w : World} {g : Nat} {h : Option Nat} {room : Nat} {l : List Sp} {lost : Int} (hb : BufIs w g h room l lost) : ∀ k, k ∈ own g h → k < w.heap.size := by
  obtain ⟨v, h1, h2, h3, _⟩ := hb
  intro k hk
  simp only [own, List.mem_cons] at hk
  rcases hk with rfl | hk
  · exact h2.lt
  · rw [← h1] at hk
    exact (h3.lt k (by simpa using hk)).2
theorem BufIs.below {w w' : World} {g : Nat} {h : Option Nat} {room : Nat} {l : List Sp} {lost : Int} (hb : BufIs w g h room l lost) (ho : Only (own g h) w w') : Below g w w' :=
  ho.below (Nat.le_of_lt (hb.lt g (by simp [own]))) hb.own_ge

def putR (room : Nat) (p : List Sp × Int) (s : Sp) : List Sp × Int := if p.1.length < room then (p.1 ++ [s], p.2) else (p.1, min (p.2 + 1) 1099511627776)
theorem put_any (g : Nat) (h : Option Nat) (room : Nat) (l : List Sp) (lost : Int) (s : Sp) (w : World) (hb : BufIs w g h room l lost) :
    Calls Try.prog 24 #[.pointer (some ⟨g, 0, none⟩), .agg #[.int .u64 s.hi, .int .u64 s.lo, .int .u64 s.id, .int .u64 s.up, .string s.name, .int .i64 s.status, .int .i64 s.seq, .int .i64 s.kids, .bool s.shadow, .int .i64 s.start, .int .i64 s.stop]] w fun e w' =>
      e = .returned (.bool (decide (l.length < room))) ∧ Only (own g h) w w' ∧ ∃ h', Moved w h h' ∧ BufIs w' g h' room (putR room (l, lost) s).1 (putR room (l, lost) s).2 := by
  have hle : l.length ≤ room := by obtain ⟨_, _, _, _, h, _⟩ := hb; exact h
  unfold putR
  by_cases hf : l.length < room
  · refine (put_more g h room l lost s w hb hf).mono ?_
    rintro e w' ⟨rfl, ho, h', hm, hb'⟩
    refine ⟨by simp [hf], ho, h', hm, ?_⟩
    simp only [if_pos hf]
    exact hb'
  · refine (put_full g h room l lost s w hb (by omega)).mono ?_
    rintro e w' ⟨rfl, ho, hb'⟩
    refine ⟨by simp [hf], ho, h, .inl rfl, ?_⟩
    simp only [if_neg hf]
    exact hb'
theorem take_any (g : Nat) (h : Option Nat) (room : Nat) (l : List Sp) (lost : Int) (n : Int) (w : World) (hb : BufIs w g h room l lost) :
    Calls Try.prog 80 #[.pointer (some ⟨g, 0, none⟩), .int .i64 n] w (TakeQ g h room l lost (takeN n l) w) := by
  by_cases h0 : n ≤ 0 ∨ l.length = 0
  · have e : takeN n l = 0 := by unfold takeN; omega
    rw [e]
    exact take_zero g h room l lost n w hb h0
  · obtain ⟨a, cap, e1, h2, h3, h4, h5, h6, h7⟩ := hb.form
    have hsome : ∃ hb0, a = some ⟨hb0, 0, none⟩ := by
      rcases h3.2 with ⟨_, h9⟩ | ⟨gg, cp, cur, e9, _⟩
      · omega
      · cases e9; exact ⟨gg, rfl⟩
    obtain ⟨hb0, rfl⟩ := hsome
    have e2 : h = some hb0 := e1.symm
    subst e2
    refine take_pos g hb0 room l lost n (takeN n l) cap w h2 h3 h4 h5 h6 h7 ?_ ?_ ?_
    · unfold takeN; omega
    · unfold takeN; omega
    · unfold takeN; omega

theorem same_list (u v : Value) (l : List Sp) (W : World) (h : ∃ p : Nat → Prop, (∀ b, p b → b < W.heap.size) ∧ RowsOf p Sp.enc 11 W u l) (h2 : ∃ p : Nat → Prop, (∀ b, p b → b < W.heap.size) ∧ RowsOf p Sp.enc 11 W v l) (hl : l.length ≤ 1000000) :
    Calls Try.prog 15 #[u, v] W fun e w' => e = .returned (.bool true) ∧ Below W.heap.size W w' := by
  obtain ⟨p, hp, hr⟩ := h
  obtain ⟨q, hq, hr2⟩ := h2
  exact C30.ssame_any u v l l true W hr hp hr2 hq (by omega) (by omega) (decide_eq_true rfl)

end C25
end Go.Proofs.Ytcohcanakicmpaa
namespace Go.Peri
/-- What an exporter holds. -/
structure Xs where
  wait : List Sp
  lost : Int
  way : List Sq
  next : Nat
  last : Int
  acked : Nat
  given : Nat
  far : List Nat
end Go.Peri
namespace Go.Proofs.Ytcohcanakicmpaa
open Go.RowKit Go.Peri
open Sq (rest ixQ atQ total bk benc)
open C26 (QR BR Fresh)
open C25 (BufIs roomR own Moved putR blk11)
open C09 (chS)
namespace C27
theorem bufOnly {w w' : World} {g : Nat} {h : Option Nat} {room : Nat} {l : List Sp} {lost : Int} {S : List Nat} (hb : BufIs w g h room l lost) (ho : Only S w w') (hs : ∀ b, b ∈ S → b ∉ own g h) : BufIs w' g h room l lost := by
  obtain ⟨v, h1, h2, h3, h4⟩ := hb
  exact ⟨v, h1, h2.only ho (fun hm => hs _ hm (by simp [own])), owns_keep h3 ho (fun b hb hm => hs b hm (by
    unfold blocks at hb
    rw [h1] at hb
    simp only [own, List.mem_cons]
    exact .inr hb)), h4⟩
/-- A sender: its block, its buffer; what is under way lies elsewhere. -/
structure SIs (w : World) (gS gB : Nat) (h : Option Nat) (node : Int) (c : Lim) (x : Xs) : Prop where
  bs : ∃ a cap, Blk w gS #[.pointer (some ⟨gB, 0, none⟩), .int .i64 node, .int .i64 c.a0, .int .i64 c.a1, .int .i64 c.a2, .int .i64 c.buf, .int .i64 c.batch, .int .i64 c.every, .int .i64 c.flight, .int .i64 c.retry, .int .i64 c.tries, .int .i64 c.a9, .int .i64 c.a10, .slice c.ida c.idn c.idc, .slice a x.way.length cap, .int .i64 x.next, .int .i64 x.last, .int .i64 x.acked, .int .i64 x.given] 71 ∧ QR (fun b => b < w.heap.size ∧ b ∉ gS :: (own gB h ++ x.far)) w x.way (.slice a x.way.length cap)
  bb : BufIs w gB h (roomR c.buf) x.wait x.lost
  lt : gB < gS
  ne : gS ∉ own gB h
  tl : ∀ b ∈ x.far, b < w.heap.size
structure XIs (w : World) (gX gS gB : Nat) (h : Option Nat) (node : Int) (c : Lim) (x : Xs) : Prop where
  bx : Blk w gX #[.pointer (some ⟨gS, 0, none⟩)] 73
  s : SIs w gS gB h node c x
  ne : gX ∉ gS :: own gB h
  lt : gB < gX
section
variable {w w' : World} {gX gS gB : Nat} {h h' : Option Nat} {node : Int} {c : Lim} {x x' : Xs} {S : List Nat}
theorem qrOnly {v : Value} {cl : List Sq} {S T : List Nat} (h2 : QR (fun b => b < w.heap.size ∧ b ∉ T) w cl v) (ho : Only S w w') (hn : ∀ b, b ∈ S → b ∈ T) : QR (fun b => b < w'.heap.size ∧ b ∉ T) w' cl v :=
  (h2.only ho (fun b hb => ⟨hb.1, fun hm => hb.2 (hn b hm)⟩)).imp (fun b hb => ⟨Nat.lt_of_lt_of_le hb.1 ho.size, hb.2⟩)
theorem SIs.only (hs : SIs w gS gB h node c x) (ho : Only [] w w') : SIs w' gS gB h node c x := by
  obtain ⟨⟨a, cap, h1, h2⟩, h3, h4, h5, h6⟩ := hs
  exact ⟨⟨a, cap, h1.only ho (by simp), qrOnly h2 ho (by simp)⟩, bufOnly h3 ho (by simp), h4, h5, fun b hb => Nat.lt_of_lt_of_le (h6 b hb) ho.size⟩
theorem SIs.later (hs : SIs w gS gB h node c x) (ho : Below w.heap.size w w') : SIs w' gS gB h node c x := hs.only (Only.of_below ho)
theorem XIs.later (hs : XIs w gX gS gB h node c x) (ho : Below w.heap.size w w') : XIs w' gX gS gB h node c x := ⟨hs.bx.later ho, hs.s.later ho, hs.ne, hs.lt⟩
theorem SIs.gSlt (hs : SIs w gS gB h node c x) : gS < w.heap.size := by
  obtain ⟨⟨a, cap, h1, h2⟩, h3, h4, h5⟩ := hs
  exact h1.lt
/-- The buffer has changed. -/
theorem SIs.buf {wait : List Sp} {lost : Int} (hs : SIs w gS gB h node c x) (ho : Only (own gB h) w w') (hm : Moved w h h') (hb : BufIs w' gB h' (roomR c.buf) wait lost) : SIs w' gS gB h' node c { x with wait := wait, lost := lost } := by
  obtain ⟨⟨a, cap, h1, h2⟩, h3, h4, h5, h7⟩ := hs
  have hl := h1.lt
  have key : ∀ b, b < w.heap.size → b ∉ own gB h → b ∉ own gB h' := fun b hb hn hm' => by
    rcases hm with rfl | ⟨k, rfl, hk⟩
    · exact hn hm'
    · simp only [own, List.mem_cons, Option.toList_some, List.not_mem_nil, or_false] at hm' hn
      rcases hm' with hm' | hm'
      · exact hn (.inl hm')
      · omega
  refine ⟨⟨a, cap, h1.only ho h5, ?_⟩, hb, h4, key _ hl h5, fun b hb => Nat.lt_of_lt_of_le (h7 b hb) ho.size⟩
  refine (h2.only ho (fun b hb => ⟨hb.1, fun hm' => hb.2 (by simp [hm'])⟩)).imp (fun b hb => ⟨Nat.lt_of_lt_of_le hb.1 ho.size, ?_⟩)
  have h6 := hb.2
  simp only [List.mem_cons, List.mem_append, not_or] at h6 ⊢
  exact ⟨h6.1, key b hb.1 h6.2.1, h6.2.2⟩
theorem XIs.ne' (hs : XIs w gX gS gB h node c x) (hm : Moved w h h') : gX ∉ gS :: own gB h' := by
  have h0 := hs.ne
  have hl := hs.bx.lt
  rcases hm with rfl | ⟨k, rfl, hk⟩
  · exact h0
  · simp only [own, List.mem_cons, Option.toList_some, List.not_mem_nil, or_false, not_or] at h0 ⊢
    exact ⟨h0.1, h0.2.1, by omega⟩
/-- The sender's own block has changed. -/
theorem SIs.store (hs : SIs w gS gB h node c x) (ho : Only [gS] w w') (hb : ∃ a cap, Blk w' gS #[.pointer (some ⟨gB, 0, none⟩), .int .i64 node, .int .i64 c.a0, .int .i64 c.a1, .int .i64 c.a2, .int .i64 c.buf, .int .i64 c.batch, .int .i64 c.every, .int .i64 c.flight, .int .i64 c.retry, .int .i64 c.tries, .int .i64 c.a9, .int .i64 c.a10, .slice c.ida c.idn c.idc, .slice a x'.way.length cap, .int .i64 x'.next, .int .i64 x'.last, .int .i64 x'.acked, .int .i64 x'.given] 71 ∧ QR (fun b => b < w'.heap.size ∧ b ∉ gS :: (own gB h ++ x.far)) w' x'.way (.slice a x'.way.length cap)) (h1 : x'.wait = x.wait) (h2 : x'.lost = x.lost) (h3 : x'.far = x.far := by rfl) : SIs w' gS gB h node c x' := by
  refine ⟨by rw [h3]; exact hb, ?_, hs.lt, hs.ne, fun b hb => by rw [h3] at hb; exact Nat.lt_of_lt_of_le (hs.tl b hb) ho.size⟩
  rw [h1, h2]
  exact bufOnly hs.bb ho (fun b hb => by simp at hb; rw [hb]; exact hs.ne)
theorem XIs.of (hs : XIs w gX gS gB h node c x) (ho : Only (gS :: own gB h) w w') (hm : Moved w h h') (h1 : SIs w' gS gB h' node c x') : XIs w' gX gS gB h' node c x' := ⟨hs.bx.only ho hs.ne, h1, hs.ne' hm, hs.lt⟩
theorem SIs.below (hs : SIs w gS gB h node c x) (ho : Only (gS :: own gB h) w w') : Below gB w w' :=
  ho.below (by have := hs.gSlt; have := hs.lt; omega) (fun b hb => by
    rcases List.mem_cons.1 hb with rfl | hb
    · exact Nat.le_of_lt hs.lt
    · exact hs.bb.own_ge b hb)
end
def x0 : Xs := ⟨[], 0, [], 0, 0, 0, 0, []⟩
def NewQ (W : World) (node : Int) (c : Lim) (e : Ending) (w' : World) : Prop := ∃ gB gS gX, e = .returned (.tuple #[.pointer (some ⟨gX, 0, none⟩), .int .i64 0]) ∧ W.heap.size ≤ gB ∧ Below W.heap.size W w' ∧ Hid (XIs w' gX gS gB none node c x0)
theorem new_fin (W w4 : World) (gB : Nat) (node : Int) (c : Lim) (hb : Below W.heap.size W w4) (hg : W.heap.size ≤ gB) (hs : w4.heap.size = gB + 1) (hbu : BufIs w4 gB none (roomR c.buf) [] 0) :
    Below W.heap.size W ((w4.alloc (.cells #[.pointer (some ⟨gB, 0, none⟩), .int .i64 node, .int .i64 c.a0, .int .i64 c.a1, .int .i64 c.a2, .int .i64 c.buf, .int .i64 c.batch, .int .i64 c.every, .int .i64 c.flight, .int .i64 c.retry, .int .i64 c.tries, .int .i64 c.a9, .int .i64 c.a10, .slice c.ida c.idn c.idc, .slice none 0 0, .int .i64 0, .int .i64 0, .int .i64 0, .int .i64 0] 71)).alloc (.cells #[.pointer (some ⟨w4.heap.size, 0, none⟩)] 73)) ∧ XIs ((w4.alloc (.cells #[.pointer (some ⟨gB, 0, none⟩), .int .i64 node, .int .i64 c.a0, .int .i64 c.a1, .int .i64 c.a2, .int .i64 c.buf, .int .i64 c.batch, .int .i64 c.every, .int .i64 c.flight, .int .i64 c.retry, .int .i64 c.tries, .int .i64 c.a9, .int .i64 c.a10, .slice c.ida c.idn c.idc, .slice none 0 0, .int .i64 0, .int .i64 0, .int .i64 0, .int .i64 0] 71)).alloc (.cells #[.pointer (some ⟨w4.heap.size, 0, none⟩)] 73)) (w4.heap.size + 1) w4.heap.size gB none node c x0 := by
  have h1 : Below w4.heap.size w4 ((w4.alloc (.cells #[.pointer (some ⟨gB, 0, none⟩), .int .i64 node, .int .i64 c.a0, .int .i64 c.a1, .int .i64 c.a2, .int .i64 c.buf, .int .i64 c.batch, .int .i64 c.every, .int .i64 c.flight, .int .i64 c.retry, .int .i64 c.tries, .int .i64 c.a9, .int .i64 c.a10, .slice c.ida c.idn c.idc, .slice none 0 0, .int .i64 0, .int .i64 0, .int .i64 0, .int .i64 0] 71)).alloc (.cells #[.pointer (some ⟨w4.heap.size, 0, none⟩)] 73)) := by go_grown
  refine ⟨hb.trans (h1.mono hb.size), ?_, ⟨⟨none, 0, (Blk.new _ _ _).alloc _, QR.nil _ _⟩, hbu.later h1, by omega, by simp [own]; omega, by simp [x0]⟩, by simp [own]; omega, by omega⟩
  exact Blk.new' _ _ _ (by simp)
set_option maxRecDepth 100000 in
set_option maxHeartbeats 8000000 in
theorem new_any (node : Int) (c : Lim) (ok : c.Ok) (W : World) (h0 : 0 ≤ node) (h7 : node ≤ 7) :
    Calls Try.prog 7 #[.int .i64 node, .agg #[.int .i64 c.a0, .int .i64 c.a1, .int .i64 c.a2, .int .i64 c.buf, .int .i64 c.batch, .int .i64 c.every, .int .i64 c.flight, .int .i64 c.retry, .int .i64 c.tries, .int .i64 c.a9, .int .i64 c.a10, .slice c.ida c.idn c.idc]] W (NewQ W node c) := by
  have XC := hid (fun w => check_any c ok w)
  clear ok
  go_enter Try.func7, Try.ntmps7
  go_upto_region 1 with fail
  refine wp_genS ?_
  intro w1 hw1
  have hb1 : Below W.heap.size W w1 := by rw [hw1]; go_grown
  have hk1 : Blk w1 W.heap.size #[.int .i64 c.a0, .int .i64 c.a1, .int .i64 c.a2, .int .i64 c.buf, .int .i64 c.batch, .int .i64 c.every, .int .i64 c.flight, .int .i64 c.retry, .int .i64 c.tries, .int .i64 c.a9, .int .i64 c.a10, .slice c.ida c.idn c.idc] 24 := by rw [hw1]; exact Blk.new _ _ _
  clear hw1
  have HB1 := hid hb1
  have HK1 := hid hk1
  clear hb1 hk1
  have K1 : w1.cell? ⟨W.heap.size, 0, none⟩ = some (.int .i64 c.a0) ∧ w1.cell? ⟨W.heap.size, 1, none⟩ = some (.int .i64 c.a1) ∧ w1.cell? ⟨W.heap.size, 2, none⟩ = some (.int .i64 c.a2) ∧ w1.cell? ⟨W.heap.size, 3, none⟩ = some (.int .i64 c.buf) ∧ w1.cell? ⟨W.heap.size, 4, none⟩ = some (.int .i64 c.batch) ∧ w1.cell? ⟨W.heap.size, 5, none⟩ = some (.int .i64 c.every) ∧ w1.cell? ⟨W.heap.size, 6, none⟩ = some (.int .i64 c.flight) ∧ w1.cell? ⟨W.heap.size, 7, none⟩ = some (.int .i64 c.retry) ∧ w1.cell? ⟨W.heap.size, 8, none⟩ = some (.int .i64 c.tries) ∧ w1.cell? ⟨W.heap.size, 9, none⟩ = some (.int .i64 c.a9) ∧ w1.cell? ⟨W.heap.size, 10, none⟩ = some (.int .i64 c.a10) ∧ w1.cell? ⟨W.heap.size, 11, none⟩ = some (.slice c.ida c.idn c.idc) := ⟨HK1.out.cell 0, HK1.out.cell 1, HK1.out.cell 2, HK1.out.cell 3, HK1.out.cell 4, HK1.out.cell 5, HK1.out.cell 6, HK1.out.cell 7, HK1.out.cell 8, HK1.out.cell 9, HK1.out.cell 10, HK1.out.cell 11⟩
  obtain ⟨z0, z1, z2, z3, z4, z5, z6, z7, z8, z9, z10, z11⟩ := K1
  go_wp2_with fail
  refine (XC.out _).mono ?_
  rintro e w2 ⟨rfl, hb2⟩
  have HB2 := hid (HB1.out.trans (hb2.mono HB1.out.size))
  have HK2 := hid (HK1.out.later hb2)
  have hlt := HK2.out.lt
  clear hb2 HK1 HB1 z0 z1 z2 z3 z4 z5 z6 z7 z8 z9 z10 z11
  have KEEP : Hid (∀ w', Below w2.heap.size w2 w' → w'.cell? ⟨W.heap.size, 0, none⟩ = some (.int .i64 c.a0) ∧ w'.cell? ⟨W.heap.size, 1, none⟩ = some (.int .i64 c.a1) ∧ w'.cell? ⟨W.heap.size, 2, none⟩ = some (.int .i64 c.a2) ∧ w'.cell? ⟨W.heap.size, 3, none⟩ = some (.int .i64 c.buf) ∧ w'.cell? ⟨W.heap.size, 4, none⟩ = some (.int .i64 c.batch) ∧ w'.cell? ⟨W.heap.size, 5, none⟩ = some (.int .i64 c.every) ∧ w'.cell? ⟨W.heap.size, 6, none⟩ = some (.int .i64 c.flight) ∧ w'.cell? ⟨W.heap.size, 7, none⟩ = some (.int .i64 c.retry) ∧ w'.cell? ⟨W.heap.size, 8, none⟩ = some (.int .i64 c.tries) ∧ w'.cell? ⟨W.heap.size, 9, none⟩ = some (.int .i64 c.a9) ∧ w'.cell? ⟨W.heap.size, 10, none⟩ = some (.int .i64 c.a10) ∧ w'.cell? ⟨W.heap.size, 11, none⟩ = some (.slice c.ida c.idn c.idc)) := hid (fun w' hb => ⟨(HK2.out.later hb).cell 0, (HK2.out.later hb).cell 1, (HK2.out.later hb).cell 2, (HK2.out.later hb).cell 3, (HK2.out.later hb).cell 4, (HK2.out.later hb).cell 5, (HK2.out.later hb).cell 6, (HK2.out.later hb).cell 7, (HK2.out.later hb).cell 8, (HK2.out.later hb).cell 9, (HK2.out.later hb).cell 10, (HK2.out.later hb).cell 11⟩)
  have XN : Hid (∀ w', Below w2.heap.size w2 w' → Calls Try.prog 22 #[.int .i64 c.buf] w' fun e w'' => ∃ gB, e = .returned (.pointer (some ⟨gB, 0, none⟩)) ∧ Below w2.heap.size w2 w'' ∧ Hid (w2.heap.size ≤ gB ∧ w''.heap.size = gB + 1 ∧ BufIs w'' gB none (roomR c.buf) [] 0)) := hid (fun w' hb => (C25.new_any c.buf w').mono (by
    rintro e w'' ⟨rfl, h1, h2, h3⟩
    exact ⟨_, rfl, hb.trans (h1.mono hb.size), hid ⟨hb.size, h2, h3⟩⟩))
  go_wp2_with fail
  refine wp_region_held_drew (S := (fun w' => w'.cell? ⟨W.heap.size, 0, none⟩ = some (.int .i64 c.a0) ∧ w'.cell? ⟨W.heap.size, 1, none⟩ = some (.int .i64 c.a1) ∧ w'.cell? ⟨W.heap.size, 2, none⟩ = some (.int .i64 c.a2) ∧ w'.cell? ⟨W.heap.size, 3, none⟩ = some (.int .i64 c.buf) ∧ w'.cell? ⟨W.heap.size, 4, none⟩ = some (.int .i64 c.batch) ∧ w'.cell? ⟨W.heap.size, 5, none⟩ = some (.int .i64 c.every) ∧ w'.cell? ⟨W.heap.size, 6, none⟩ = some (.int .i64 c.flight) ∧ w'.cell? ⟨W.heap.size, 7, none⟩ = some (.int .i64 c.retry) ∧ w'.cell? ⟨W.heap.size, 8, none⟩ = some (.int .i64 c.tries) ∧ w'.cell? ⟨W.heap.size, 9, none⟩ = some (.int .i64 c.a9) ∧ w'.cell? ⟨W.heap.size, 10, none⟩ = some (.int .i64 c.a10) ∧ w'.cell? ⟨W.heap.size, 11, none⟩ = some (.slice c.ida c.idn c.idc))) (by kernel_rfl) (by (refine KEEP.out _ ?_; (repeat' (first | assumption | (with_reducible exact Below.refl _ _) | (with_reducible refine Below.drew ?_) | (with_reducible refine Below.alloc ?_ (by first | exact Nat.le_refl _ | (exact Below.size (by assumption)) | (simp; done) | (simp; omega)) _))))) (fun hHeld => ?_)
  refine wpAnyH_take (i := 0) (oi := ⟨_, _, _, _, _, _⟩) (v := ?_) rfl (by kernel_rfl) (by kernel_rfl) (by kernel_rfl) (fun _ _ _ h => h) (Or.inl ⟨by rfl, ?_⟩) hHeld ?_
  rotate_left
  · (intro w hSw; (try dsimp only at hSw); go_simp) <;> with_reducible rfl
  try simp only [Act.put, List.setIfInBounds_toArray, List.set_cons_zero, List.set_cons_succ]
  refine wpAnyH_take (i := 1) (oi := ⟨_, _, _, _, _, _⟩) (v := ?_) rfl (by kernel_rfl) (by kernel_rfl) (by kernel_rfl) (fun _ _ _ h => h) (Or.inl ⟨by rfl, ?_⟩) hHeld ?_
  rotate_left
  · (intro w hSw; (try dsimp only at hSw); go_simp) <;> with_reducible rfl
  try simp only [Act.put, List.setIfInBounds_toArray, List.set_cons_zero, List.set_cons_succ]
  refine wpAnyH_take (i := 3) (oi := ⟨_, _, _, _, _, _⟩) (v := ?_) rfl (by kernel_rfl) (by kernel_rfl) (by kernel_rfl) (fun _ _ _ h => h) (Or.inl ⟨by rfl, ?_⟩) hHeld ?_
  rotate_left
  · (intro w hSw; (try dsimp only at hSw); go_simp) <;> with_reducible rfl
  try simp only [Act.put, List.setIfInBounds_toArray, List.set_cons_zero, List.set_cons_succ]
  refine wpAnyH_take (i := 4) (oi := ⟨_, _, _, _, _, _⟩) (v := ?_) rfl (by kernel_rfl) (by kernel_rfl) (by kernel_rfl) (fun _ _ _ h => h) (Or.inl ⟨by rfl, ?_⟩) hHeld ?_
  rotate_left
  · (intro w hSw; (try dsimp only at hSw); go_simp) <;> with_reducible rfl
  try simp only [Act.put, List.setIfInBounds_toArray, List.set_cons_zero, List.set_cons_succ]
  refine wpAnyH_ready (rs := [2]) (by kernel_rfl) (by simp) ?_
  refine AllReadyH.cons (o := ⟨_, _, _, _, _, _⟩) rfl (fun K hK => ?_) AllReadyH.nil
  clear hHeld
  go_simp
  go_at_call 22
  refine (XN.out _ (by first | assumption | exact Below.refl _ _ | exact (Below.refl _ _).drew)).mono ?_
  rintro e w4 ⟨gB, rfl, hB4, HQ4⟩
  have hs24 := hB4.size
  refine hK.out _ _ (by (refine KEEP.out _ ?_; (repeat' (first | assumption | (with_reducible exact Below.refl _ _) | (with_reducible refine Below.drew ?_) | (with_reducible refine Below.alloc ?_ (by first | exact Nat.le_refl _ | (exact Below.size (by assumption)) | (simp; done) | (simp; omega)) _))))) (fun hHeld => ?_)
  clear hK K
  try simp only [Act.put, List.setIfInBounds_toArray, List.set_cons_zero, List.set_cons_succ]
  refine wpAnyH_take (i := 5) (oi := ⟨_, _, _, _, _, _⟩) (v := ?_) rfl (by kernel_rfl) (by kernel_rfl) (by kernel_rfl) (fun _ _ _ h => h) (Or.inl ⟨by rfl, ?_⟩) hHeld ?_
  rotate_left
  · (intro w hSw; (try dsimp only at hSw); go_simp) <;> with_reducible rfl
  try simp only [Act.put, List.setIfInBounds_toArray, List.set_cons_zero, List.set_cons_succ]
  refine wpAnyH_ready (rs := [6]) (by kernel_rfl) (by simp) ?_
  refine AllReadyH.cons (o := ⟨_, _, _, _, _, _⟩) rfl (fun K hK => ?_) AllReadyH.nil
  clear hHeld
  go_simp
  refine hK.out _ _ (by (refine KEEP.out _ ?_; (repeat' (first | assumption | (with_reducible exact Below.refl _ _) | (with_reducible refine Below.drew ?_) | (with_reducible refine Below.alloc ?_ (by first | exact Nat.le_refl _ | (exact Below.size (by assumption)) | (simp; done) | (simp; omega)) _))))) (fun hHeld => ?_)
  clear hK K
  try simp only [Act.put, List.setIfInBounds_toArray, List.set_cons_zero, List.set_cons_succ]
  refine wpAnyH_take (i := 7) (oi := ⟨_, _, _, _, _, _⟩) (v := ?_) rfl (by kernel_rfl) (by kernel_rfl) (by kernel_rfl) (fun _ _ _ h => h) (Or.inl ⟨by rfl, ?_⟩) hHeld ?_
  rotate_left
  · (intro w hSw; (try dsimp only at hSw); go_simp) <;> with_reducible rfl
  try simp only [Act.put, List.setIfInBounds_toArray, List.set_cons_zero, List.set_cons_succ]
  refine wpAnyH_ready (rs := [8]) (by kernel_rfl) (by simp) ?_
  refine AllReadyH.cons (o := ⟨_, _, _, _, _, _⟩) rfl (fun K hK => ?_) AllReadyH.nil
  clear hHeld
  go_simp
  refine hK.out _ _ (by (refine KEEP.out _ ?_; (repeat' (first | assumption | (with_reducible exact Below.refl _ _) | (with_reducible refine Below.drew ?_) | (with_reducible refine Below.alloc ?_ (by first | exact Nat.le_refl _ | (exact Below.size (by assumption)) | (simp; done) | (simp; omega)) _))))) (fun hHeld => ?_)
  clear hK K
  try simp only [Act.put, List.setIfInBounds_toArray, List.set_cons_zero, List.set_cons_succ]
  refine wpAnyH_take (i := 9) (oi := ⟨_, _, _, _, _, _⟩) (v := ?_) rfl (by kernel_rfl) (by kernel_rfl) (by kernel_rfl) (fun _ _ _ h => h) (Or.inl ⟨by rfl, ?_⟩) hHeld ?_
  rotate_left
  · (intro w hSw; (try dsimp only at hSw); go_simp) <;> with_reducible rfl
  try simp only [Act.put, List.setIfInBounds_toArray, List.set_cons_zero, List.set_cons_succ]
  refine wpAnyH_take (i := 10) (oi := ⟨_, _, _, _, _, _⟩) (v := ?_) rfl (by kernel_rfl) (by kernel_rfl) (by kernel_rfl) (fun _ _ _ h => h) (Or.inl ⟨by rfl, ?_⟩) hHeld ?_
  rotate_left
  · (intro w hSw; (try dsimp only at hSw); go_simp) <;> with_reducible rfl
  try simp only [Act.put, List.setIfInBounds_toArray, List.set_cons_zero, List.set_cons_succ]
  refine wpAnyH_done (by kernel_rfl) ?_ _
  go_wp2_with fail
  go_ret2
  obtain ⟨q1, q2, q3⟩ := HQ4.out
  obtain ⟨f1, f2⟩ := new_fin W w4 gB node c (HB2.out.trans (hB4.mono HB2.out.size)) (by have := HB2.out.size; omega) q2 q3
  exact ⟨gB, w4.heap.size, w4.heap.size + 1, by simp, by have := HB2.out.size; omega, f1, hid f2⟩
end C27
end Go.Proofs.Ytcohcanakicmpaa
namespace Go.Proofs.Ytcohcanakicmpaa
open Go.RowKit Go.Peri
open Sq (rest ixQ atQ total bk benc)
open C26 (QR BR Fresh)
open C25 (BufIs roomR own Moved putR blk11)
open C09 (chS)
namespace C27
def putE (c : Lim) (x : Xs) (s : Sp) : Int := if chS s = 0 then (if x.wait.length < roomR c.buf then 0 else 8) else chS s
def putX (c : Lim) (x : Xs) (s : Sp) : Xs := if chS s = 0 then { x with wait := (putR (roomR c.buf) (x.wait, x.lost) s).1, lost := (putR (roomR c.buf) (x.wait, x.lost) s).2 } else x
def PutQ (W : World) (gX gS gB : Nat) (h : Option Nat) (node : Int) (c : Lim) (x : Xs) (s : Sp) (e : Ending) (w' : World) : Prop :=
  e = .returned (.int .i64 (putE c x s)) ∧ ∃ h', Only (gS :: own gB h) W w' ∧ Moved W h h' ∧ Hid (XIs w' gX gS gB h' node c (putX c x s))
theorem ch_le (s : Sp) : 0 ≤ chS s ∧ chS s ≤ 12 := by
  unfold chS
  split
  · omega
  · split
    · omega
    · split <;> omega
set_option maxRecDepth 100000 in
set_option maxHeartbeats 8000000 in
theorem put_any (gX gS gB : Nat) (h : Option Nat) (node : Int) (c : Lim) (x : Xs) (s : Sp) (W : World) (hx : XIs W gX gS gB h node c x) (hs : s.Wf) :
    Calls Try.prog 8 #[.pointer (some ⟨gX, 0, none⟩), .agg #[.int .u64 s.hi, .int .u64 s.lo, .int .u64 s.id, .int .u64 s.up, .string s.name, .int .i64 s.status, .int .i64 s.seq, .int .i64 s.kids, .bool s.shadow, .int .i64 s.start, .int .i64 s.stop]] W (PutQ W gX gS gB h node c x s) := by
  obtain ⟨r, hr⟩ : ∃ r, chS s = r := ⟨_, rfl⟩
  have XC := hid (fun w => C09.scheck_any s r w hs hr)
  have hrl := ch_le s
  rw [hr] at hrl
  unfold PutQ putE putX
  rw [hr]
  have HX := hid hx
  have hgl := hx.bx.lt
  have hgs := hx.s.gSlt
  clear hs hr hx
  by_cases h0 : r = 0
  · rw [if_pos h0, if_pos h0]
    subst h0
    clear hrl
    obtain ⟨b0, hb0⟩ : ∃ b, decide (x.wait.length < roomR c.buf) = b := ⟨_, rfl⟩
    have HBo := hid hb0
    obtain ⟨v2, hv2⟩ : ∃ v, (if x.wait.length < roomR c.buf then (0 : Int) else 8) = v := ⟨_, rfl⟩
    rw [hv2]
    have HV2 := hid hv2
    clear hv2
    go_enter Try.func8, Try.ntmps8
    go_upto_region 1 with fail
    refine wp_genS ?_
    intro w1 hw1
    have hb1 : Below W.heap.size W w1 := by rw [hw1]; go_grown
    have hk1 : Blk w1 W.heap.size #[.int .u64 s.hi, .int .u64 s.lo, .int .u64 s.id, .int .u64 s.up, .string s.name, .int .i64 s.status, .int .i64 s.seq, .int .i64 s.kids, .bool s.shadow, .int .i64 s.start, .int .i64 s.stop] 37 := by rw [hw1]; exact Blk.new _ _ _
    clear hw1
    have HB1 := hid hb1
    have HK1 := hid hk1
    obtain ⟨x0, x1, x2, x3, x4, x5, x6, x7, x8, x9, x10, -⟩ := blk11 hk1
    clear hb1 hk1 hb0
    go_wp2_with fail
    refine (XC.out _).mono ?_
    rintro e w2 ⟨rfl, hb2⟩
    have HB2 := hid (HB1.out.trans (hb2.mono HB1.out.size))
    have HK2 := hid (HK1.out.later hb2)
    have HX2 := hid (HX.out.later HB2.out)
    have hlt := HK2.out.lt
    have hle2 := HB2.out.size
    have hg2 := HX2.out.bx.lt
    have hs2 := HX2.out.s.gSlt
    clear hb2 HK1 HB1 x0 x1 x2 x3 x4 x5 x6 x7 x8 x9 x10
    have HOWN : Hid (∀ b ∈ own gB h, b ≠ W.heap.size ∧ b ≠ gS ∧ b ≠ gX) := hid (fun b hb => ⟨fun e => by have := HX.out.s.bb.lt b hb; omega, fun e => HX.out.s.ne (e ▸ hb), fun e => HX.out.ne (by rw [← e]; simp [hb])⟩)
    have KEEP : Hid (∀ w', Only (own gB h) w2 w' → w'.cell? ⟨gX, 0, none⟩ = some (.pointer (some ⟨gS, 0, none⟩)) ∧ w'.cell? ⟨gS, 0, none⟩ = some (.pointer (some ⟨gB, 0, none⟩)) ∧ w'.cell? ⟨W.heap.size, 0, none⟩ = some (.int .u64 s.hi) ∧ w'.cell? ⟨W.heap.size, 1, none⟩ = some (.int .u64 s.lo) ∧ w'.cell? ⟨W.heap.size, 2, none⟩ = some (.int .u64 s.id) ∧ w'.cell? ⟨W.heap.size, 3, none⟩ = some (.int .u64 s.up) ∧ w'.cell? ⟨W.heap.size, 4, none⟩ = some (.string s.name) ∧ w'.cell? ⟨W.heap.size, 5, none⟩ = some (.int .i64 s.status) ∧ w'.cell? ⟨W.heap.size, 6, none⟩ = some (.int .i64 s.seq) ∧ w'.cell? ⟨W.heap.size, 7, none⟩ = some (.int .i64 s.kids) ∧ w'.cell? ⟨W.heap.size, 8, none⟩ = some (.bool s.shadow) ∧ w'.cell? ⟨W.heap.size, 9, none⟩ = some (.int .i64 s.start) ∧ w'.cell? ⟨W.heap.size, 10, none⟩ = some (.int .i64 s.stop)) := hid (fun w' ho => by
      have hk := HK2.out.only ho (fun hm => (HOWN.out _ hm).1 rfl)
      have hk2 := HX2.out.bx.only ho (fun hm => (HOWN.out _ hm).2.2 rfl)
      obtain ⟨⟨a, cap, h1, h2⟩, h3, h4, h5⟩ := HX2.out.s
      have hk3 := h1.only ho h5
      exact ⟨hk2.cell 0, hk3.cell 0, hk.cell 0, hk.cell 1, hk.cell 2, hk.cell 3, hk.cell 4, hk.cell 5, hk.cell 6, hk.cell 7, hk.cell 8, hk.cell 9, hk.cell 10⟩)
    have XP : Hid (∀ w', Below w2.heap.size w2 w' → Calls Try.prog 24 #[.pointer (some ⟨gB, 0, none⟩), .agg #[.int .u64 s.hi, .int .u64 s.lo, .int .u64 s.id, .int .u64 s.up, .string s.name, .int .i64 s.status, .int .i64 s.seq, .int .i64 s.kids, .bool s.shadow, .int .i64 s.start, .int .i64 s.stop]] w' fun e w'' => e = .returned (.bool b0) ∧ Only (own gB h) w2 w'' ∧ Hid (∃ h', Moved w2 h h' ∧ SIs w'' gS gB h' node c { x with wait := (putR (roomR c.buf) (x.wait, x.lost) s).1, lost := (putR (roomR c.buf) (x.wait, x.lost) s).2 })) := hid (fun w' hb => (C25.put_any gB h (roomR c.buf) x.wait x.lost s w' (HX2.out.s.later hb).bb).mono (by
      rintro e w'' ⟨rfl, h1, h', h2, h3⟩
      have h4 := (HX2.out.s.later hb).buf h1 h2 h3
      refine ⟨by rw [HBo.out], (Only.of_below hb).trans h1, hid ⟨h', h2.imp id (fun ⟨b, e1, e2⟩ => ⟨b, e1, by have := hb.size; omega⟩), h4⟩⟩))
    have HFIN : Hid (∀ w4, Only (own gB h) w2 w4 → (∃ h', Moved w2 h h' ∧ SIs w4 gS gB h' node c { x with wait := (putR (roomR c.buf) (x.wait, x.lost) s).1, lost := (putR (roomR c.buf) (x.wait, x.lost) s).2 }) → ∃ h', Only (gS :: own gB h) W w4 ∧ Moved W h h' ∧ Hid (XIs w4 gX gS gB h' node c { x with wait := (putR (roomR c.buf) (x.wait, x.lost) s).1, lost := (putR (roomR c.buf) (x.wait, x.lost) s).2 })) := hid (fun w4 ho ⟨h', hm, hs⟩ => by
      have hoW : Only (gS :: own gB h) W w4 := (Only.of_below HB2.out).trans (ho.mono (fun k hk => by simp [hk]))
      have hmW : Moved W h h' := hm.imp id (fun ⟨b, e1, e2⟩ => ⟨b, e1, by omega⟩)
      exact ⟨h', hoW, hmW, hid (HX.out.of hoW hmW hs)⟩)
    cases b0
    · have hf : ¬ x.wait.length < roomR c.buf := of_decide_eq_false HBo.out
      have HE2 := hid ((if_neg hf).symm.trans HV2.out)
      clear hf HV2
      go_wp2_with fail
      refine wp_region_held_drew (S := (fun w' => w'.cell? ⟨gX, 0, none⟩ = some (.pointer (some ⟨gS, 0, none⟩)) ∧ w'.cell? ⟨gS, 0, none⟩ = some (.pointer (some ⟨gB, 0, none⟩)) ∧ w'.cell? ⟨W.heap.size, 0, none⟩ = some (.int .u64 s.hi) ∧ w'.cell? ⟨W.heap.size, 1, none⟩ = some (.int .u64 s.lo) ∧ w'.cell? ⟨W.heap.size, 2, none⟩ = some (.int .u64 s.id) ∧ w'.cell? ⟨W.heap.size, 3, none⟩ = some (.int .u64 s.up) ∧ w'.cell? ⟨W.heap.size, 4, none⟩ = some (.string s.name) ∧ w'.cell? ⟨W.heap.size, 5, none⟩ = some (.int .i64 s.status) ∧ w'.cell? ⟨W.heap.size, 6, none⟩ = some (.int .i64 s.seq) ∧ w'.cell? ⟨W.heap.size, 7, none⟩ = some (.int .i64 s.kids) ∧ w'.cell? ⟨W.heap.size, 8, none⟩ = some (.bool s.shadow) ∧ w'.cell? ⟨W.heap.size, 9, none⟩ = some (.int .i64 s.start) ∧ w'.cell? ⟨W.heap.size, 10, none⟩ = some (.int .i64 s.stop))) (by kernel_rfl) (by (refine KEEP.out _ ?_; (repeat' (first | assumption | (with_reducible exact Only.refl _ _) | (with_reducible refine Only.drew ?_))))) (fun hHeld => ?_)
      refine wpAnyH_take (i := 0) (oi := ⟨_, _, _, _, _, _⟩) (v := ?_) rfl (by kernel_rfl) (by kernel_rfl) (by kernel_rfl) (fun _ _ _ h => h) (Or.inl ⟨by rfl, ?_⟩) hHeld ?_
      rotate_left
      · (intro w hSw; (try dsimp only at hSw); go_simp) <;> with_reducible rfl
      try simp only [Act.put, List.setIfInBounds_toArray, List.set_cons_zero, List.set_cons_succ]
      refine wpAnyH_take (i := 1) (oi := ⟨_, _, _, _, _, _⟩) (v := ?_) rfl (by kernel_rfl) (by kernel_rfl) (by kernel_rfl) (fun _ _ _ h => h) (Or.inl ⟨by rfl, ?_⟩) hHeld ?_
      rotate_left
      · (intro w hSw; (try dsimp only at hSw); go_simp) <;> with_reducible rfl
      try simp only [Act.put, List.setIfInBounds_toArray, List.set_cons_zero, List.set_cons_succ]
      refine wpAnyH_take (i := 2) (oi := ⟨_, _, _, _, _, _⟩) (v := ?_) rfl (by kernel_rfl) (by kernel_rfl) (by kernel_rfl) (fun _ _ _ h => h) (Or.inl ⟨by rfl, ?_⟩) hHeld ?_
      rotate_left
      · (intro w hSw; (try dsimp only at hSw); go_simp) <;> with_reducible rfl
      try simp only [Act.put, List.setIfInBounds_toArray, List.set_cons_zero, List.set_cons_succ]
      refine wpAnyH_take (i := 3) (oi := ⟨_, _, _, _, _, _⟩) (v := ?_) rfl (by kernel_rfl) (by kernel_rfl) (by kernel_rfl) (fun _ _ _ h => h) (Or.inl ⟨by rfl, ?_⟩) hHeld ?_
      rotate_left
      · (intro w hSw; (try dsimp only at hSw); go_simp) <;> with_reducible rfl
      try simp only [Act.put, List.setIfInBounds_toArray, List.set_cons_zero, List.set_cons_succ]
      refine wpAnyH_take (i := 4) (oi := ⟨_, _, _, _, _, _⟩) (v := ?_) rfl (by kernel_rfl) (by kernel_rfl) (by kernel_rfl) (fun _ _ _ h => h) (Or.inl ⟨by rfl, ?_⟩) hHeld ?_
      rotate_left
      · (intro w hSw; (try dsimp only at hSw); go_simp) <;> with_reducible rfl
      try simp only [Act.put, List.setIfInBounds_toArray, List.set_cons_zero, List.set_cons_succ]
      refine wpAnyH_take (i := 5) (oi := ⟨_, _, _, _, _, _⟩) (v := ?_) rfl (by kernel_rfl) (by kernel_rfl) (by kernel_rfl) (fun _ _ _ h => h) (Or.inl ⟨by rfl, ?_⟩) hHeld ?_
      rotate_left
      · (intro w hSw; (try dsimp only at hSw); go_simp) <;> with_reducible rfl
      try simp only [Act.put, List.setIfInBounds_toArray, List.set_cons_zero, List.set_cons_succ]
      refine wpAnyH_take (i := 6) (oi := ⟨_, _, _, _, _, _⟩) (v := ?_) rfl (by kernel_rfl) (by kernel_rfl) (by kernel_rfl) (fun _ _ _ h => h) (Or.inl ⟨by rfl, ?_⟩) hHeld ?_
      rotate_left
      · (intro w hSw; (try dsimp only at hSw); go_simp) <;> with_reducible rfl
      try simp only [Act.put, List.setIfInBounds_toArray, List.set_cons_zero, List.set_cons_succ]
      refine wpAnyH_take (i := 7) (oi := ⟨_, _, _, _, _, _⟩) (v := ?_) rfl (by kernel_rfl) (by kernel_rfl) (by kernel_rfl) (fun _ _ _ h => h) (Or.inl ⟨by rfl, ?_⟩) hHeld ?_
      rotate_left
      · (intro w hSw; (try dsimp only at hSw); go_simp) <;> with_reducible rfl
      try simp only [Act.put, List.setIfInBounds_toArray, List.set_cons_zero, List.set_cons_succ]
      refine wpAnyH_ready (rs := [8]) (by kernel_rfl) (by simp) ?_
      refine AllReadyH.cons (o := ⟨_, _, _, _, _, _⟩) rfl (fun K hK => ?_) AllReadyH.nil
      clear hHeld
      go_simp
      go_at_call 24
      refine (XP.out _ (by first | assumption | exact Below.refl _ _ | exact (Below.refl _ _).drew)).mono ?_
      rintro e w4 ⟨rfl, hB4, HQ4⟩
      refine hK.out _ _ (by (refine KEEP.out _ ?_; (repeat' (first | assumption | (with_reducible exact Only.refl _ _) | (with_reducible refine Only.drew ?_))))) (fun hHeld => ?_)
      clear hK K
      try simp only [Act.put, List.setIfInBounds_toArray, List.set_cons_zero, List.set_cons_succ]
      refine wpAnyH_take (i := 9) (oi := ⟨_, _, _, _, _, _⟩) (v := ?_) rfl (by kernel_rfl) (by kernel_rfl) (by kernel_rfl) (fun _ _ _ h => h) (Or.inl ⟨by rfl, ?_⟩) hHeld ?_
      rotate_left
      · (intro w hSw; (try dsimp only at hSw); go_simp) <;> with_reducible rfl
      try simp only [Act.put, List.setIfInBounds_toArray, List.set_cons_zero, List.set_cons_succ]
      refine wpAnyH_done (by kernel_rfl) ?_ _
      go_wp2_with fail
      go_ret
      exact ⟨by rw [← HE2.out]; rfl, HFIN.out _ hB4 HQ4.out⟩
    · have hf : x.wait.length < roomR c.buf := of_decide_eq_true HBo.out
      have HE2 := hid ((if_pos hf).symm.trans HV2.out)
      clear hf HV2
      go_wp2_with fail
      refine wp_region_held_drew (S := (fun w' => w'.cell? ⟨gX, 0, none⟩ = some (.pointer (some ⟨gS, 0, none⟩)) ∧ w'.cell? ⟨gS, 0, none⟩ = some (.pointer (some ⟨gB, 0, none⟩)) ∧ w'.cell? ⟨W.heap.size, 0, none⟩ = some (.int .u64 s.hi) ∧ w'.cell? ⟨W.heap.size, 1, none⟩ = some (.int .u64 s.lo) ∧ w'.cell? ⟨W.heap.size, 2, none⟩ = some (.int .u64 s.id) ∧ w'.cell? ⟨W.heap.size, 3, none⟩ = some (.int .u64 s.up) ∧ w'.cell? ⟨W.heap.size, 4, none⟩ = some (.string s.name) ∧ w'.cell? ⟨W.heap.size, 5, none⟩ = some (.int .i64 s.status) ∧ w'.cell? ⟨W.heap.size, 6, none⟩ = some (.int .i64 s.seq) ∧ w'.cell? ⟨W.heap.size, 7, none⟩ = some (.int .i64 s.kids) ∧ w'.cell? ⟨W.heap.size, 8, none⟩ = some (.bool s.shadow) ∧ w'.cell? ⟨W.heap.size, 9, none⟩ = some (.int .i64 s.start) ∧ w'.cell? ⟨W.heap.size, 10, none⟩ = some (.int .i64 s.stop))) (by kernel_rfl) (by (refine KEEP.out _ ?_; (repeat' (first | assumption | (with_reducible exact Only.refl _ _) | (with_reducible refine Only.drew ?_))))) (fun hHeld => ?_)
      refine wpAnyH_take (i := 0) (oi := ⟨_, _, _, _, _, _⟩) (v := ?_) rfl (by kernel_rfl) (by kernel_rfl) (by kernel_rfl) (fun _ _ _ h => h) (Or.inl ⟨by rfl, ?_⟩) hHeld ?_
      rotate_left
      · (intro w hSw; (try dsimp only at hSw); go_simp) <;> with_reducible rfl
      try simp only [Act.put, List.setIfInBounds_toArray, List.set_cons_zero, List.set_cons_succ]
      refine wpAnyH_take (i := 1) (oi := ⟨_, _, _, _, _, _⟩) (v := ?_) rfl (by kernel_rfl) (by kernel_rfl) (by kernel_rfl) (fun _ _ _ h => h) (Or.inl ⟨by rfl, ?_⟩) hHeld ?_
      rotate_left
      · (intro w hSw; (try dsimp only at hSw); go_simp) <;> with_reducible rfl
      try simp only [Act.put, List.setIfInBounds_toArray, List.set_cons_zero, List.set_cons_succ]
      refine wpAnyH_take (i := 2) (oi := ⟨_, _, _, _, _, _⟩) (v := ?_) rfl (by kernel_rfl) (by kernel_rfl) (by kernel_rfl) (fun _ _ _ h => h) (Or.inl ⟨by rfl, ?_⟩) hHeld ?_
      rotate_left
      · (intro w hSw; (try dsimp only at hSw); go_simp) <;> with_reducible rfl
      try simp only [Act.put, List.setIfInBounds_toArray, List.set_cons_zero, List.set_cons_succ]
      refine wpAnyH_take (i := 3) (oi := ⟨_, _, _, _, _, _⟩) (v := ?_) rfl (by kernel_rfl) (by kernel_rfl) (by kernel_rfl) (fun _ _ _ h => h) (Or.inl ⟨by rfl, ?_⟩) hHeld ?_
      rotate_left
      · (intro w hSw; (try dsimp only at hSw); go_simp) <;> with_reducible rfl
      try simp only [Act.put, List.setIfInBounds_toArray, List.set_cons_zero, List.set_cons_succ]
      refine wpAnyH_take (i := 4) (oi := ⟨_, _, _, _, _, _⟩) (v := ?_) rfl (by kernel_rfl) (by kernel_rfl) (by kernel_rfl) (fun _ _ _ h => h) (Or.inl ⟨by rfl, ?_⟩) hHeld ?_
      rotate_left
      · (intro w hSw; (try dsimp only at hSw); go_simp) <;> with_reducible rfl
      try simp only [Act.put, List.setIfInBounds_toArray, List.set_cons_zero, List.set_cons_succ]
      refine wpAnyH_take (i := 5) (oi := ⟨_, _, _, _, _, _⟩) (v := ?_) rfl (by kernel_rfl) (by kernel_rfl) (by kernel_rfl) (fun _ _ _ h => h) (Or.inl ⟨by rfl, ?_⟩) hHeld ?_
      rotate_left
      · (intro w hSw; (try dsimp only at hSw); go_simp) <;> with_reducible rfl
      try simp only [Act.put, List.setIfInBounds_toArray, List.set_cons_zero, List.set_cons_succ]
      refine wpAnyH_take (i := 6) (oi := ⟨_, _, _, _, _, _⟩) (v := ?_) rfl (by kernel_rfl) (by kernel_rfl) (by kernel_rfl) (fun _ _ _ h => h) (Or.inl ⟨by rfl, ?_⟩) hHeld ?_
      rotate_left
      · (intro w hSw; (try dsimp only at hSw); go_simp) <;> with_reducible rfl
      try simp only [Act.put, List.setIfInBounds_toArray, List.set_cons_zero, List.set_cons_succ]
      refine wpAnyH_take (i := 7) (oi := ⟨_, _, _, _, _, _⟩) (v := ?_) rfl (by kernel_rfl) (by kernel_rfl) (by kernel_rfl) (fun _ _ _ h => h) (Or.inl ⟨by rfl, ?_⟩) hHeld ?_
      rotate_left
      · (intro w hSw; (try dsimp only at hSw); go_simp) <;> with_reducible rfl
      try simp only [Act.put, List.setIfInBounds_toArray, List.set_cons_zero, List.set_cons_succ]
      refine wpAnyH_ready (rs := [8]) (by kernel_rfl) (by simp) ?_
      refine AllReadyH.cons (o := ⟨_, _, _, _, _, _⟩) rfl (fun K hK => ?_) AllReadyH.nil
      clear hHeld
      go_simp
      go_at_call 24
      refine (XP.out _ (by first | assumption | exact Below.refl _ _ | exact (Below.refl _ _).drew)).mono ?_
      rintro e w4 ⟨rfl, hB4, HQ4⟩
      refine hK.out _ _ (by (refine KEEP.out _ ?_; (repeat' (first | assumption | (with_reducible exact Only.refl _ _) | (with_reducible refine Only.drew ?_))))) (fun hHeld => ?_)
      clear hK K
      try simp only [Act.put, List.setIfInBounds_toArray, List.set_cons_zero, List.set_cons_succ]
      refine wpAnyH_take (i := 9) (oi := ⟨_, _, _, _, _, _⟩) (v := ?_) rfl (by kernel_rfl) (by kernel_rfl) (by kernel_rfl) (fun _ _ _ h => h) (Or.inl ⟨by rfl, ?_⟩) hHeld ?_
      rotate_left
      · (intro w hSw; (try dsimp only at hSw); go_simp) <;> with_reducible rfl
      try simp only [Act.put, List.setIfInBounds_toArray, List.set_cons_zero, List.set_cons_succ]
      refine wpAnyH_done (by kernel_rfl) ?_ _
      go_wp2_with fail
      go_ret
      exact ⟨by rw [← HE2.out]; rfl, HFIN.out _ hB4 HQ4.out⟩
  · rw [if_neg h0, if_neg h0]
    go_enter Try.func8, Try.ntmps8
    go_upto_region 1 with fail
    refine wp_genS ?_
    intro w1 hw1
    have hb1 : Below W.heap.size W w1 := by rw [hw1]; go_grown
    have hk1 : Blk w1 W.heap.size #[.int .u64 s.hi, .int .u64 s.lo, .int .u64 s.id, .int .u64 s.up, .string s.name, .int .i64 s.status, .int .i64 s.seq, .int .i64 s.kids, .bool s.shadow, .int .i64 s.start, .int .i64 s.stop] 37 := by rw [hw1]; exact Blk.new _ _ _
    clear hw1
    have HB1 := hid hb1
    obtain ⟨x0, x1, x2, x3, x4, x5, x6, x7, x8, x9, x10, -⟩ := blk11 hk1
    clear hb1 hk1
    go_wp2_with fail
    refine (XC.out _).mono ?_
    rintro e w2 ⟨rfl, hb2⟩
    have HB2 := hid (HB1.out.trans (hb2.mono HB1.out.size))
    clear hb2 HB1 x0 x1 x2 x3 x4 x5 x6 x7 x8 x9 x10
    go_wp2_with fail
    go_ret
    exact ⟨rfl, h, Only.of_below HB2.out, .inl rfl, hid (HX.out.later HB2.out)⟩
end C27
end Go.Proofs.Ytcohcanakicmpaa
namespace Go.Proofs.Ytcohcanakicmpaa
open Go.RowKit Go.Peri
open Sq (rest ixQ atQ total bk benc)
open C26 (QR BR Fresh)
open C25 (BufIs roomR own Moved putR blk11)
open C09 (chS)
namespace C27
def readyB (c : Lim) (x : Xs) (now : Int) : Bool := decide (0 < x.wait.length) && (decide ((x.way.length : Int) < c.flight) && (decide (c.batch ≤ (x.wait.length : Int)) || decide (c.every ≤ now - x.last)))
set_option maxRecDepth 100000 in
set_option maxHeartbeats 8000000 in
theorem ready_any (gS gB : Nat) (h : Option Nat) (node : Int) (c : Lim) (x : Xs) (now : Int) (W : World) (hx : SIs W gS gB h node c x) (hn : 0 ≤ now ∧ now ≤ 1099511627776) (hl : 0 ≤ x.last ∧ x.last ≤ 1099511627776) :
    Calls Try.prog 49 #[.pointer (some ⟨gS, 0, none⟩), .int .i64 now] W fun e w' => e = .returned (.bool (readyB c x now)) ∧ Below W.heap.size W w' := by
  obtain ⟨⟨a, cap, hb, -⟩, hbb, -, -⟩ := hx
  have XL := hid (C25.len_any gB h (roomR c.buf) x.wait x.lost W hbb)
  have c0 := hb.cell 0
  have c6 := hb.cell 6
  have c7 := hb.cell 7
  have c8 := hb.cell 8
  have c14 := hb.cell 14
  have c16 := hb.cell 16
  simp only [List.getElem?_toArray, List.getElem?_cons_zero, List.getElem?_cons_succ] at c0 c6 c7 c8 c14 c16
  have hlt := hb.lt
  obtain ⟨hn1, hn2⟩ := hn
  obtain ⟨hl1, hl2⟩ := hl
  unfold readyB
  generalize x.wait.length = n at XL ⊢
  generalize x.way.length = m at c14 ⊢
  generalize x.last = la at c16 hl1 hl2 ⊢
  generalize c.batch = cb at c6 ⊢
  generalize c.every = ce at c7 ⊢
  generalize c.flight = cf at c8 ⊢
  clear hb hbb
  by_cases h1 : 0 < n
  · have d1 : decide (0 < n) = true := decide_eq_true h1
    rw [decide_eq_true h1, Bool.true_and]
    clear h1
    by_cases h2 : (m : Int) < cf
    · have d2 : decide ((m : Int) < cf) = true := decide_eq_true h2
      rw [decide_eq_true h2, Bool.true_and]
      clear h2
      by_cases h3 : cb ≤ (n : Int)
      · have d3 : decide (cb ≤ (n : Int)) = true := decide_eq_true h3
        rw [decide_eq_true h3, Bool.true_or]
        clear h3
        go_enter Try.func49, Try.ntmps49
        go_wp2_with fail
        refine XL.out.mono ?_
        rintro e w1 ⟨rfl, rfl⟩
        go_wp2_with fail
        go_quiet (fail)
        go_wp2_with fail
        go_ret
        exact ⟨rfl, ⟨rfl, rfl, rfl, Nat.le_refl _, fun _ _ => rfl⟩⟩
      · have d3 : decide (cb ≤ (n : Int)) = false := decide_eq_false h3
        rw [decide_eq_false h3, Bool.false_or]
        clear h3
        go_enter Try.func49, Try.ntmps49
        go_wp2_with fail
        refine XL.out.mono ?_
        rintro e w1 ⟨rfl, rfl⟩
        go_wp2_with fail
        go_quiet (fail)
        go_wp2_with fail
        go_ret
        exact ⟨rfl, ⟨rfl, rfl, rfl, Nat.le_refl _, fun _ _ => rfl⟩⟩
    · have d2 : decide ((m : Int) < cf) = false := decide_eq_false h2
      rw [decide_eq_false h2, Bool.false_and]
      clear h2
      go_enter Try.func49, Try.ntmps49
      go_wp2_with fail
      refine XL.out.mono ?_
      rintro e w1 ⟨rfl, rfl⟩
      go_wp2_with fail
      go_quiet (fail)
      go_wp2_with fail
      go_ret
      exact ⟨rfl, ⟨rfl, rfl, rfl, Nat.le_refl _, fun _ _ => rfl⟩⟩
  · have d1 : decide (0 < n) = false := decide_eq_false h1
    rw [decide_eq_false h1, Bool.false_and]
    clear h1
    go_enter Try.func49, Try.ntmps49
    go_wp2_with fail
    refine XL.out.mono ?_
    rintro e w1 ⟨rfl, rfl⟩
    go_wp2_with fail
    go_quiet (fail)
    go_wp2_with fail
    go_ret
    exact ⟨rfl, ⟨rfl, rfl, rfl, Nat.le_refl _, fun _ _ => rfl⟩⟩
end C27
end Go.Proofs.Ytcohcanakicmpaa
namespace Go.Proofs.Ytcohcanakicmpaa
open Go.RowKit Go.Peri
open Sq (rest ixQ atQ total bk benc)
open C26 (QR BR Fresh dueI SendR)
open C25 (BufIs roomR own Moved putR blk11 takeN TakeQ)
open C09 (chS)
namespace C27
def takenX (c : Lim) (x : Xs) : List Sp := x.wait.take (takeN c.batch x.wait)
def oneX (node : Int) (c : Lim) (x : Xs) (now : Int) : Sq := ⟨node, x.next, none, 0, takenX c x, 1, dueI now c.retry⟩
def freshX (node : Int) (c : Lim) (x : Xs) (now : Int) : Xs := { x with wait := x.wait.drop (takeN c.batch x.wait), way := x.way ++ [oneX node c x now], next := x.next + 1, last := now }
theorem take_is (gB : Nat) (gS : Nat) (h : Option Nat) (node : Int) (c : Lim) (x : Xs) (w1 w' : World) (hx : SIs w1 gS gB h node c x) (hb : Below w1.heap.size w1 w') :
    Calls Try.prog 80 #[.pointer (some ⟨gB, 0, none⟩), .int .i64 c.batch] w' fun e w'' => ∃ a cap, e = .returned (.slice a (takenX c x).length cap) ∧ Only (own gB h) w1 w'' ∧ Only (own gB h) w' w'' ∧ Hid (SIs w'' gS gB h node c { x with wait := x.wait.drop (takeN c.batch x.wait) } ∧ RowsOf (fun b => w'.heap.size ≤ b ∧ b < w''.heap.size) Sp.enc 11 w'' (.slice a (takenX c x).length cap) (takenX c x)) := by
  refine (C25.take_any gB h (roomR c.buf) x.wait x.lost c.batch w' (hx.later hb).bb).mono ?_
  rintro e w'' ⟨a, cap, rfl, ho, hbu, hown⟩
  exact ⟨a, cap, rfl, (Only.of_below hb).trans ho, ho, hid ⟨(hx.later hb).buf ho (.inl rfl) hbu, (RowsOf.of_owns (enc := Sp.enc) Sp.enc_length hown.out).imp (fun b hb2 => ⟨hb2.1, hb2.2⟩)⟩⟩
structure Fr3 (w1 w3 : World) (W : World) (gS gB : Nat) (h : Option Nat) (node : Int) (c : Lim) (x : Xs) (sp : List Sp) (a : Option Addr) (cap : Nat) (gb : Nat) : Prop where
  ho : Only (own gB h) w1 w3
  si : SIs w3 gS gB h node c { x with wait := x.wait.drop (takeN c.batch x.wait) }
  b : Blk w3 gb #[.int .i64 node, .int .i64 x.next, .slice a sp.length cap] 45
  r : Blk w3 W.heap.size #[.int .i64 0, .int .i64 0, .slice none 0 0] 45
  sp : RowsOf (fun b => w1.heap.size ≤ b ∧ b < w3.heap.size ∧ b ≠ gb) Sp.enc 11 w3 (.slice a sp.length cap) sp
  gb : w1.heap.size ≤ gb
structure Fr5 (w1 w5 : World) (W : World) (gS gB : Nat) (h : Option Nat) (node : Int) (c : Lim) (x : Xs) (now : Int) (sp : List Sp) (a : Option Addr) (cap : Nat) (gb : Nat) : Prop where
  ho : Only (gS :: own gB h) w1 w5
  si : SIs w5 gS gB h node c { x with wait := x.wait.drop (takeN c.batch x.wait), next := x.next + 1, last := now }
  b : Blk w5 gb #[.int .i64 node, .int .i64 x.next, .slice a sp.length cap] 45
  r : Blk w5 W.heap.size #[.int .i64 0, .int .i64 0, .slice none 0 0] 45
  sp : RowsOf (fun b => w1.heap.size ≤ b ∧ b < w5.heap.size ∧ b ≠ gb) Sp.enc 11 w5 (.slice a sp.length cap) sp
theorem fr5_of {w1 w3 W : World} {gS gB : Nat} {h : Option Nat} {node : Int} {c : Lim} {x : Xs} {now : Int} {sp : List Sp} {a : Option Addr} {cap gb : Nat} (f : Fr3 w1 w3 W gS gB h node c x sp a cap gb) (hW : W.heap.size ≠ gS) (hs1 : gS < w1.heap.size) :
    Fr5 w1 ((w3.setCell ⟨gS, 15, none⟩ (.int .i64 ((x.next : Int) + 1))).setCell ⟨gS, 16, none⟩ (.int .i64 now)) W gS gB h node c x now sp a cap gb := by
  have ho : Only [gS] w3 ((w3.setCell ⟨gS, 15, none⟩ (.int .i64 ((x.next : Int) + 1))).setCell ⟨gS, 16, none⟩ (.int .i64 now)) := ((Only.refl _ _).setCell (by simp) _).setCell (by simp) _
  have hgb := f.gb
  have hbl := f.b.lt
  have e : ((x.next : Int) + 1) = ((x.next + 1 : Nat) : Int) := by omega
  obtain ⟨a1, c1, hb1, hq1⟩ := f.si.bs
  refine ⟨(f.ho.mono (fun k hk => List.mem_cons_of_mem _ hk)).trans (ho.mono (by simp)), f.si.store ho ⟨a1, c1, ?_, qrOnly hq1 ho (by simp)⟩ rfl rfl, f.b.only ho (by simp; omega), f.r.only ho (by simpa using hW), (f.sp.only ho (fun b hb => ⟨hb.2.1, by simp; omega⟩)).imp (fun b hb => ⟨hb.1, Nat.lt_of_lt_of_le hb.2.1 ho.size, hb.2.2⟩)⟩
  rw [e]
  exact (hb1.set 15 _).set 16 _
def FreshQ (W : World) (gS gB : Nat) (h : Option Nat) (node : Int) (c : Lim) (x : Xs) (now : Int) (e : Ending) (w' : World) : Prop :=
  ∃ a cap, e = .returned (.agg #[.int .i64 node, .int .i64 x.next, .slice a (takenX c x).length cap]) ∧ Only (gS :: own gB h) W w' ∧ Hid ((∀ Y w8, (∀ b, b ∈ Y → b < W.heap.size ∧ b ∉ gS :: own gB h) → Only Y w' w8 → SIs w8 gS gB h node c (freshX node c x now)) ∧ RowsOf (Fresh W.heap.size w') Sp.enc 11 w' (.slice a (takenX c x).length cap) (takenX c x))
theorem fresh_fin {w1 w5 w6 W : World} {gS gB : Nat} {h : Option Nat} {node : Int} {c : Lim} {x : Xs} {now : Int} {a : Option Addr} {cap gb : Nat} {v6 : Value} (hW1 : Only [] W w1) (hs : SIs W gS gB h node c x) (h0 : W.heap.size < w1.heap.size) (hg1 : w1.heap.size ≤ gb) (f : Fr5 w1 w5 W gS gB h node c x now (takenX c x) a cap gb)
    (hr : SendR w5 (x.way ++ [oneX node c x now]) v6 w6) :
    (Only (gS :: own gB h) W (w6.setCell ⟨gS, 14, none⟩ v6) ∧ (∀ Y w8, (∀ b, b ∈ Y → b ≤ W.heap.size ∧ b ∉ gS :: own gB h) → Only Y (w6.setCell ⟨gS, 14, none⟩ v6) w8 → SIs w8 gS gB h node c (freshX node c x now)) ∧ Blk (w6.setCell ⟨gS, 14, none⟩ v6) W.heap.size #[.int .i64 0, .int .i64 0, .slice none 0 0] 45 ∧ Blk (w6.setCell ⟨gS, 14, none⟩ v6) gb #[.int .i64 node, .int .i64 x.next, .slice a (takenX c x).length cap] 45 ∧ RowsOf (Fresh w1.heap.size (w6.setCell ⟨gS, 14, none⟩ v6)) Sp.enc 11 (w6.setCell ⟨gS, 14, none⟩ v6) (.slice a (takenX c x).length cap) (takenX c x)) := by
  obtain ⟨hb6, hq6⟩ := hr
  have ho : Only [gS] w6 (w6.setCell ⟨gS, 14, none⟩ v6) := (Only.refl _ _).setCell (by simp) _
  have hgs := hs.gSlt
  have h5 := f.ho.size
  have h6 := hb6.size
  have hgl := f.b.lt
  have hz := ho.size
  obtain ⟨a1, c1, hb1, hq1⟩ := f.si.bs
  obtain ⟨a6, c6, e6⟩ := hq6.form
  refine ⟨(((hW1.mono (by simp)).trans f.ho).trans (Only.of_below hb6)).trans (ho.mono (by simp)), ?_, (f.r.later hb6).only ho (by simp; omega), (f.b.later hb6).only ho (by simp; omega), ?_⟩
  · intro Y w8 hY h8
    have h28 : Only (gS :: Y) w6 w8 := (ho.mono (by simp)).trans (h8.mono (fun k hk => List.mem_cons_of_mem _ hk))
    have hYg : gS ∉ Y := fun hm => (hY _ hm).2 (by simp)
    refine ⟨⟨a6, c6, ?_, ?_⟩, bufOnly (bufOnly f.si.bb (Only.of_below (S := []) hb6) (by simp)) h28 (fun b hb hm => ?_), hs.lt, hs.ne, fun b hb => by have := hs.tl b hb; have := h8.size; omega⟩
    · have hk := ((hb1.later hb6).set 14 v6).only h8 hYg
      rw [e6] at hk
      exact hk
    · show QR _ _ (x.way ++ [oneX node c x now]) (.slice a6 (x.way ++ [oneX node c x now]).length c6)
      rw [← e6]
      refine (hq6.only h28 (fun b hb => ⟨hb.2, fun hm => by rcases List.mem_cons.1 hm with e | hm; (have := hb.1; omega); have := (hY b hm).1; have := hb.1; omega⟩)).imp (fun b hb => ⟨Nat.lt_of_lt_of_le hb.2 h28.size, ?_⟩)
      have hbo := hb.1
      simp only [List.mem_cons, List.mem_append, not_or]
      refine ⟨by omega, fun hm => ?_, fun hm => ?_⟩
      · have := hs.bb.lt b hm
        omega
      · have := hs.tl b hm
        omega
    · rcases List.mem_cons.1 hb with rfl | hb
      · exact hs.ne hm
      · exact (hY b hb).2 (by simp [hm])
  · exact (((f.sp.below hb6 (fun b hb => hb.2.1)).only ho (fun b hb => ⟨by omega, by simp; omega⟩))).imp (fun b hb => ⟨hb.1, by omega⟩)
theorem fr_out {W w7 w8 : World} {S : List Nat} {gS : Nat} (h : Only S W w7) (ho : Only [W.heap.size] w7 w8) (_hg : gS < W.heap.size) : Only S W w8 :=
  ⟨ho.os.trans h.os, ho.tape.trans h.tape, ho.output.trans h.output, Nat.le_trans h.size ho.size, fun i hi hn => (ho.block i (Nat.lt_of_lt_of_le hi h.size) (by simp; omega)).trans (h.block i hi hn)⟩
set_option maxRecDepth 100000 in
set_option maxHeartbeats 8000000 in
theorem fresh_any (gS gB : Nat) (h : Option Nat) (node : Int) (c : Lim) (x : Xs) (now : Int) (W : World) (hx : SIs W gS gB h node c x) (hnx : x.next ≤ 1000000) (hsp : ∀ k ∈ x.way, k.sp.length ≤ 1000000) (hcl : x.way.length ≤ 100000) (htk : (takenX c x).length ≤ 1000000) :
    Calls Try.prog 50 #[.pointer (some ⟨gS, 0, none⟩), .int .i64 now] W (FreshQ W gS gB h node c x now) := by
  have HX := hid hx
  have HSP := hid hsp
  have HCL := hid hcl
  have hgs := hx.gSlt
  have HNX : Hid (0 ≤ (x.next : Int) ∧ (x.next : Int) ≤ 1000000) := hid (by omega)
  clear hx hsp hcl hnx
  go_enter Try.func50, Try.ntmps50
  go_upto_region 1 with fail
  refine wp_genS ?_
  intro w1 hw1
  have hb1 : Below W.heap.size W w1 := by rw [hw1]; go_grown
  have hk1 : Blk w1 W.heap.size #[.int .i64 0, .int .i64 0, .slice none 0 0] 45 := by rw [hw1]; exact Blk.new _ _ _
  clear hw1
  have HB1 := hid hb1
  have HK1 := hid hk1
  have HX1 := hid (HX.out.later hb1)
  have hl1 := hk1.lt
  clear hb1 hk1
  have KEEP : Hid (∀ w', Only (own gB h) w1 w' → w'.cell? ⟨gS, 0, none⟩ = some (.pointer (some ⟨gB, 0, none⟩)) ∧ w'.cell? ⟨gS, 1, none⟩ = some (.int .i64 node) ∧ w'.cell? ⟨gS, 6, none⟩ = some (.int .i64 c.batch) ∧ w'.cell? ⟨gS, 15, none⟩ = some (.int .i64 x.next)) := hid (fun w' ho => by
    obtain ⟨⟨a, cap, h1, h2⟩, h3, h4, h5⟩ := HX1.out
    have hk3 := h1.only ho h5
    exact ⟨hk3.cell 0, hk3.cell 1, hk3.cell 6, hk3.cell 15⟩)
  have XT : Hid (∀ w', Below w1.heap.size w1 w' → _) := hid (fun w' hb => take_is gB gS h node c x w1 w' HX1.out hb)
  have HOWN : Hid (∀ b ∈ own gB h, b < W.heap.size) := hid (fun b hb => HX.out.bb.lt b hb)
  have HNEW : Hid (∀ (w' w2 : World) (a : Option Addr) (cap : Nat), Below w1.heap.size w1 w' → Only (own gB h) w1 w2 → Only (own gB h) w' w2 → (SIs w2 gS gB h node c { x with wait := x.wait.drop (takeN c.batch x.wait) } ∧ RowsOf (fun b => w'.heap.size ≤ b ∧ b < w2.heap.size) Sp.enc 11 w2 (.slice a (takenX c x).length cap) (takenX c x)) → Fr3 w1 (w2.alloc (.cells #[.int .i64 node, .int .i64 x.next, .slice a (takenX c x).length cap] 45)) W gS gB h node c x (takenX c x) a cap w2.heap.size) := hid (fun w' w2 a cap hb ho ho' hq => by
    have hb2 : Below w2.heap.size w2 (w2.alloc (.cells #[.int .i64 node, .int .i64 x.next, .slice a (takenX c x).length cap] 45)) := by go_grown
    have hz := hb.size
    refine ⟨ho.trans (Only.of_below hb2), hq.1.later hb2, Blk.new _ _ _, (HK1.out.only ho (fun hm => by have := HOWN.out _ hm; omega)).later hb2, (hq.2.below hb2 (fun b hb => hb.2)).imp (fun b hb => ⟨by omega, by simp; omega, by omega⟩), ho.size⟩)
  have HNEWB : Hid (∀ (w' w2 : World) (a : Option Addr) (cap : Nat), Below w1.heap.size w1 w' → w'.heap.size = w1.heap.size + 1 → Blk w2 w1.heap.size #[.int .i64 0, .int .i64 0, .slice none 0 0] 45 → Only (own gB h) w1 w2 → Only (own gB h) w' w2 → (SIs w2 gS gB h node c { x with wait := x.wait.drop (takeN c.batch x.wait) } ∧ RowsOf (fun b => w'.heap.size ≤ b ∧ b < w2.heap.size) Sp.enc 11 w2 (.slice a (takenX c x).length cap) (takenX c x)) → Fr3 w1 (((w2.setCell ⟨w1.heap.size, 0, none⟩ (.int .i64 node)).setCell ⟨w1.heap.size, 1, none⟩ (.int .i64 x.next)).setCell ⟨w1.heap.size, 2, none⟩ (.slice a (takenX c x).length cap)) W gS gB h node c x (takenX c x) a cap w1.heap.size) := hid (fun w' w2 a cap hb hs hk ho ho' hq => by
    have ho2 : Only [w1.heap.size] w2 (((w2.setCell ⟨w1.heap.size, 0, none⟩ (.int .i64 node)).setCell ⟨w1.heap.size, 1, none⟩ (.int .i64 x.next)).setCell ⟨w1.heap.size, 2, none⟩ (.slice a (takenX c x).length cap)) := by
      iterate 3 (refine Only.setCell ?_ (by simp) _)
      exact Only.refl _ _
    have hz := hb.size
    have ho1 : Only (own gB h) w1 (((w2.setCell ⟨w1.heap.size, 0, none⟩ (.int .i64 node)).setCell ⟨w1.heap.size, 1, none⟩ (.int .i64 x.next)).setCell ⟨w1.heap.size, 2, none⟩ (.slice a (takenX c x).length cap)) := by
      iterate 3 (refine Only.setNew ?_ (Nat.le_refl _) _)
      exact ho
    have hno : w1.heap.size ∉ own gB h := fun hm => by have := HOWN.out _ hm; omega
    have hwW : W.heap.size ∉ own gB h := fun hm => by have := HOWN.out _ hm; omega
    have hs2 := ho.size
    have hz2 := ho2.size
    have hk2 := hk.lt
    refine ⟨ho1, HX1.out.buf ho1 (.inl rfl) (bufOnly hq.1.bb ho2 (fun b hb hm => by simp at hb; exact hno (hb ▸ hm))), ((hk.set 0 _).set 1 _).set 2 _, HK1.out.only ho1 hwW, ?_, Nat.le_refl _⟩
    exact (hq.2.only ho2 (fun b hb => ⟨hb.2, by simp; omega⟩)).imp (fun b hb => ⟨by omega, by omega, by omega⟩))
  go_upto_region 1 with fail
  go_cut [5] (fun s5 wx => ∃ gb a cap, s5 = .pointer (some ⟨gb, 0, none⟩) ∧ Fr3 w1 wx W gS gB h node c x (takenX c x) a cap gb)
  case first =>
    refine wp_region_held_drew (S := (fun w' => w'.cell? ⟨gS, 0, none⟩ = some (.pointer (some ⟨gB, 0, none⟩)) ∧ w'.cell? ⟨gS, 1, none⟩ = some (.int .i64 node) ∧ w'.cell? ⟨gS, 6, none⟩ = some (.int .i64 c.batch) ∧ w'.cell? ⟨gS, 15, none⟩ = some (.int .i64 x.next))) (by kernel_rfl) (by (refine KEEP.out _ ?_; (repeat' (first | assumption | (with_reducible exact Only.refl _ _) | (with_reducible refine Only.drew ?_) | (with_reducible refine Only.alloc ?_ _) | (with_reducible refine Only.setNew ?_ (Nat.le_refl _) _))))) (fun hHeld => ?_)
    refine wpAnyH_take (i := 0) (oi := ⟨_, _, _, _, _, _⟩) (v := ?_) rfl (by kernel_rfl) (by kernel_rfl) (by kernel_rfl) (fun _ _ _ h => h) (Or.inl ⟨by rfl, ?_⟩) hHeld ?_
    rotate_left
    · (intro w hSw; (try dsimp only at hSw); go_simp) <;> with_reducible rfl
    try simp only [Act.put, List.setIfInBounds_toArray, List.set_cons_zero, List.set_cons_succ]
    refine wpAnyH_take (i := 1) (oi := ⟨_, _, _, _, _, _⟩) (v := ?_) rfl (by kernel_rfl) (by kernel_rfl) (by kernel_rfl) (fun _ _ _ h => h) (Or.inl ⟨by rfl, ?_⟩) hHeld ?_
    rotate_left
    · (intro w hSw; (try dsimp only at hSw); go_simp) <;> with_reducible rfl
    try simp only [Act.put, List.setIfInBounds_toArray, List.set_cons_zero, List.set_cons_succ]
    refine wpAnyH_take (i := 2) (oi := ⟨_, _, _, _, _, _⟩) (v := ?_) rfl (by kernel_rfl) (by kernel_rfl) (by kernel_rfl) (fun _ _ _ h => h) (Or.inl ⟨by rfl, ?_⟩) hHeld ?_
    rotate_left
    · (intro w hSw; (try dsimp only at hSw); go_simp) <;> with_reducible rfl
    try simp only [Act.put, List.setIfInBounds_toArray, List.set_cons_zero, List.set_cons_succ]
    refine wpAnyH_take (i := 3) (oi := ⟨_, _, _, _, _, _⟩) (v := ?_) rfl (by kernel_rfl) (by kernel_rfl) (by kernel_rfl) (fun _ _ _ h => h) (Or.inl ⟨by rfl, ?_⟩) hHeld ?_
    rotate_left
    · (intro w hSw; (try dsimp only at hSw); go_simp) <;> with_reducible rfl
    try simp only [Act.put, List.setIfInBounds_toArray, List.set_cons_zero, List.set_cons_succ]
    refine wpAnyH_take (i := 4) (oi := ⟨_, _, _, _, _, _⟩) (v := ?_) rfl (by kernel_rfl) (by kernel_rfl) (by kernel_rfl) (fun _ _ _ h => h) (Or.inl ⟨by rfl, ?_⟩) hHeld ?_
    rotate_left
    · (intro w hSw; (try dsimp only at hSw); go_simp) <;> with_reducible rfl
    try simp only [Act.put, List.setIfInBounds_toArray, List.set_cons_zero, List.set_cons_succ]
    refine wpAnyH_take (i := 5) (oi := ⟨_, _, _, _, _, _⟩) (v := ?_) rfl (by kernel_rfl) (by kernel_rfl) (by kernel_rfl) (fun _ _ _ h => h) (Or.inl ⟨by rfl, ?_⟩) hHeld ?_
    rotate_left
    · (intro w hSw; (try dsimp only at hSw); go_simp) <;> with_reducible rfl
    try simp only [Act.put, List.setIfInBounds_toArray, List.set_cons_zero, List.set_cons_succ]
    refine wpAnyH_take (i := 6) (oi := ⟨_, _, _, _, _, _⟩) (v := ?_) rfl (by kernel_rfl) (by kernel_rfl) (by kernel_rfl) (fun _ _ _ h => h) (Or.inl ⟨by rfl, ?_⟩) hHeld ?_
    rotate_left
    · (intro w hSw; (try dsimp only at hSw); go_simp) <;> with_reducible rfl
    try simp only [Act.put, List.setIfInBounds_toArray, List.set_cons_zero, List.set_cons_succ]
    refine wpAnyH_take (i := 7) (oi := ⟨_, _, _, _, _, _⟩) (v := ?_) rfl (by kernel_rfl) (by kernel_rfl) (by kernel_rfl) (fun _ _ _ h => h) (Or.inl ⟨by rfl, ?_⟩) hHeld ?_
    rotate_left
    · (intro w hSw; (try dsimp only at hSw); go_simp) <;> with_reducible rfl
    try simp only [Act.put, List.setIfInBounds_toArray, List.set_cons_zero, List.set_cons_succ]
    refine wpAnyH_take (i := 8) (oi := ⟨_, _, _, _, _, _⟩) (v := ?_) rfl (by kernel_rfl) (by kernel_rfl) (by kernel_rfl) (fun _ _ _ h => h) (Or.inl ⟨by rfl, ?_⟩) hHeld ?_
    rotate_left
    · (intro w hSw; (try dsimp only at hSw); go_simp) <;> with_reducible rfl
    try simp only [Act.put, List.setIfInBounds_toArray, List.set_cons_zero, List.set_cons_succ]
    refine wpAnyH_take (i := 9) (oi := ⟨_, _, _, _, _, _⟩) (v := ?_) rfl (by kernel_rfl) (by kernel_rfl) (by kernel_rfl) (fun _ _ _ h => h) (Or.inl ⟨by rfl, ?_⟩) hHeld ?_
    rotate_left
    · (intro w hSw; (try dsimp only at hSw); go_simp) <;> with_reducible rfl
    try simp only [Act.put, List.setIfInBounds_toArray, List.set_cons_zero, List.set_cons_succ]
    refine wpAnyH_take (i := 10) (oi := ⟨_, _, _, _, _, _⟩) (v := ?_) rfl (by kernel_rfl) (by kernel_rfl) (by kernel_rfl) (fun _ _ _ h => h) (Or.inl ⟨by rfl, ?_⟩) hHeld ?_
    rotate_left
    · (intro w hSw; (try dsimp only at hSw); go_simp) <;> with_reducible rfl
    try simp only [Act.put, List.setIfInBounds_toArray, List.set_cons_zero, List.set_cons_succ]
    refine wpAnyH_take (i := 11) (oi := ⟨_, _, _, _, _, _⟩) (v := ?_) rfl (by kernel_rfl) (by kernel_rfl) (by kernel_rfl) (fun _ _ _ h => h) (Or.inl ⟨by rfl, ?_⟩) hHeld ?_
    rotate_left
    · (intro w hSw; (try dsimp only at hSw); go_simp) <;> with_reducible rfl
    try simp only [Act.put, List.setIfInBounds_toArray, List.set_cons_zero, List.set_cons_succ]
    refine wpAnyH_take (i := 12) (oi := ⟨_, _, _, _, _, _⟩) (v := ?_) rfl (by kernel_rfl) (by kernel_rfl) (by kernel_rfl) (fun _ _ _ h => h) (Or.inl ⟨by rfl, ?_⟩) hHeld ?_
    rotate_left
    · (intro w hSw; (try dsimp only at hSw); go_simp) <;> with_reducible rfl
    try simp only [Act.put, List.setIfInBounds_toArray, List.set_cons_zero, List.set_cons_succ]
    refine wpAnyH_take (i := 13) (oi := ⟨_, _, _, _, _, _⟩) (v := ?_) rfl (by kernel_rfl) (by kernel_rfl) (by kernel_rfl) (fun _ _ _ h => h) (Or.inl ⟨by rfl, ?_⟩) hHeld ?_
    rotate_left
    · (intro w hSw; (try dsimp only at hSw); go_simp) <;> with_reducible rfl
    try simp only [Act.put, List.setIfInBounds_toArray, List.set_cons_zero, List.set_cons_succ]
    refine wpAnyH_take (i := 14) (oi := ⟨_, _, _, _, _, _⟩) (v := ?_) rfl (by kernel_rfl) (by kernel_rfl) (by kernel_rfl) (fun _ _ _ h => h) (Or.inl ⟨by rfl, ?_⟩) hHeld ?_
    rotate_left
    · (intro w hSw; (try dsimp only at hSw); go_simp) <;> with_reducible rfl
    try simp only [Act.put, List.setIfInBounds_toArray, List.set_cons_zero, List.set_cons_succ]
    refine wpAnyH_take (i := 15) (oi := ⟨_, _, _, _, _, _⟩) (v := ?_) rfl (by kernel_rfl) (by kernel_rfl) (by kernel_rfl) (fun _ _ _ h => h) (Or.inl ⟨by rfl, ?_⟩) hHeld ?_
    rotate_left
    · (intro w hSw; (try dsimp only at hSw); go_simp) <;> with_reducible rfl
    try simp only [Act.put, List.setIfInBounds_toArray, List.set_cons_zero, List.set_cons_succ]
    refine wpAnyH_take (i := 16) (oi := ⟨_, _, _, _, _, _⟩) (v := ?_) rfl (by kernel_rfl) (by kernel_rfl) (by kernel_rfl) (fun _ _ _ h => h) (Or.inl ⟨by rfl, ?_⟩) hHeld ?_
    rotate_left
    · (intro w hSw; (try dsimp only at hSw); go_simp) <;> with_reducible rfl
    try simp only [Act.put, List.setIfInBounds_toArray, List.set_cons_zero, List.set_cons_succ]
    refine wpAnyH_ready (rs := [17, 19]) (by kernel_rfl) (by simp) ?_
    refine AllReadyH.cons (o := ⟨_, _, _, _, _, _⟩) rfl (fun K hK => ?_) ?_
    · clear hHeld
      go_simp
      go_at_call 80
      have hbw := Below.refl w1.heap.size w1
      refine (XT.out _ (by first | assumption | exact Below.refl _ _ | exact (Below.refl _ _).drew)).mono ?_
      rintro e w2 ⟨a, cap, rfl, hO2, hO2', HQ2⟩
      refine hK.out _ _ (by (refine KEEP.out _ ?_; (repeat' (first | assumption | (with_reducible exact Only.refl _ _) | (with_reducible refine Only.drew ?_) | (with_reducible refine Only.alloc ?_ _) | (with_reducible refine Only.setNew ?_ (Nat.le_refl _) _))))) (fun hHeld => ?_)
      clear hK K
      try simp only [Act.put, List.setIfInBounds_toArray, List.set_cons_zero, List.set_cons_succ]
      refine wpAnyH_take (i := 18) (oi := ⟨_, _, _, _, _, _⟩) (v := ?_) rfl (by kernel_rfl) (by kernel_rfl) (by kernel_rfl) (fun _ _ _ h => h) (Or.inl ⟨by rfl, ?_⟩) hHeld ?_
      rotate_left
      · (intro w hSw; (try dsimp only at hSw); go_simp) <;> with_reducible rfl
      try simp only [Act.put, List.setIfInBounds_toArray, List.set_cons_zero, List.set_cons_succ]
      refine wpAnyH_ready (rs := [19]) (by kernel_rfl) (by simp) ?_
      refine AllReadyH.cons (o := ⟨_, _, _, _, _, _⟩) rfl (fun K hK => ?_) AllReadyH.nil
      clear hHeld
      go_simp
      refine hK.out _ _ (by (refine KEEP.out _ ?_; (repeat' (first | assumption | (with_reducible exact Only.refl _ _) | (with_reducible refine Only.drew ?_) | (with_reducible refine Only.alloc ?_ _) | (with_reducible refine Only.setNew ?_ (Nat.le_refl _) _))))) (fun hHeld => ?_)
      clear hK K
      try simp only [Act.put, List.setIfInBounds_toArray, List.set_cons_zero, List.set_cons_succ]
      refine wpAnyH_ready (rs := [20]) (by kernel_rfl) (by simp) ?_
      refine AllReadyH.cons (o := ⟨_, _, _, _, _, _⟩) rfl (fun K hK => ?_) AllReadyH.nil
      clear hHeld
      go_simp
      refine hK.out _ _ (by (refine KEEP.out _ ?_; (repeat' (first | assumption | (with_reducible exact Only.refl _ _) | (with_reducible refine Only.drew ?_) | (with_reducible refine Only.alloc ?_ _) | (with_reducible refine Only.setNew ?_ (Nat.le_refl _) _))))) (fun hHeld => ?_)
      clear hK K
      try simp only [Act.put, List.setIfInBounds_toArray, List.set_cons_zero, List.set_cons_succ]
      refine wpAnyH_done (by kernel_rfl) ?_ _
      go_wp2_with fail
      go_meet
      case rel => exact ⟨_, a, cap, rfl, HNEW.out _ w2 a cap (by first | exact Below.refl _ _ | exact (Below.refl _ _).drew) hO2 hO2' HQ2.out⟩
    · refine AllReadyH.cons (o := ⟨_, _, _, _, _, _⟩) rfl (fun K hK => ?_) AllReadyH.nil
      clear hHeld
      go_simp
      refine hK.out _ _ (by (refine KEEP.out _ ?_; (repeat' (first | assumption | (with_reducible exact Only.refl _ _) | (with_reducible refine Only.drew ?_) | (with_reducible refine Only.alloc ?_ _) | (with_reducible refine Only.setNew ?_ (Nat.le_refl _) _))))) (fun hHeld => ?_)
      clear hK K
      try simp only [Act.put, List.setIfInBounds_toArray, List.set_cons_zero, List.set_cons_succ]
      refine wpAnyH_ready (rs := [17]) (by kernel_rfl) (by simp) ?_
      refine AllReadyH.cons (o := ⟨_, _, _, _, _, _⟩) rfl (fun K hK => ?_) AllReadyH.nil
      clear hHeld
      go_simp
      go_at_call 80
      refine (XT.out _ (by go_grown)).mono ?_
      rintro e w2 ⟨a, cap, rfl, hO2, hO2', HQ2⟩
      have hkz : Blk w2 w1.heap.size #[.int .i64 0, .int .i64 0, .slice none 0 0] 45 := Blk.only (Blk.drew (Blk.new' _ _ _ rfl)) hO2' (fun hm => by have := HOWN.out _ hm; omega)
      obtain ⟨k0, k1, k2⟩ := C10.blk3o hkz
      have kf := hkz.free
      have hkl := hkz.lt
      refine hK.out _ _ (by (refine KEEP.out _ ?_; (repeat' (first | assumption | (with_reducible exact Only.refl _ _) | (with_reducible refine Only.drew ?_) | (with_reducible refine Only.alloc ?_ _) | (with_reducible refine Only.setNew ?_ (Nat.le_refl _) _))))) (fun hHeld => ?_)
      clear hK K
      try simp only [Act.put, List.setIfInBounds_toArray, List.set_cons_zero, List.set_cons_succ]
      refine wpAnyH_take (i := 18) (oi := ⟨_, _, _, _, _, _⟩) (v := ?_) rfl (by kernel_rfl) (by kernel_rfl) (by kernel_rfl) (fun _ _ _ h => h) (Or.inl ⟨by rfl, ?_⟩) hHeld ?_
      rotate_left
      · (intro w hSw; (try dsimp only at hSw); go_simp) <;> with_reducible rfl
      try simp only [Act.put, List.setIfInBounds_toArray, List.set_cons_zero, List.set_cons_succ]
      refine wpAnyH_ready (rs := [20]) (by kernel_rfl) (by simp) ?_
      refine AllReadyH.cons (o := ⟨_, _, _, _, _, _⟩) rfl (fun K hK => ?_) AllReadyH.nil
      clear hHeld
      go_simp
      refine hK.out _ _ (by (refine KEEP.out _ ?_; (repeat' (first | assumption | (with_reducible exact Only.refl _ _) | (with_reducible refine Only.drew ?_) | (with_reducible refine Only.alloc ?_ _) | (with_reducible refine Only.setNew ?_ (Nat.le_refl _) _))))) (fun hHeld => ?_)
      clear hK K
      try simp only [Act.put, List.setIfInBounds_toArray, List.set_cons_zero, List.set_cons_succ]
      refine wpAnyH_done (by kernel_rfl) ?_ _
      go_wp2_with fail
      go_meet
      case rel => exact ⟨_, a, cap, rfl, HNEWB.out _ w2 a cap (by go_grown) (by simp) hkz hO2 hO2' HQ2.out⟩
  case rest =>
  obtain ⟨gb, a, cap, rfl, hf3⟩ := hcut
  have HF3 := hid hf3
  clear hf3 HNEW HNEWB XT KEEP HK1 HX1
  obtain ⟨as3, caps, hs3, -⟩ := HF3.out.si.bs
  have c15 := hs3.cell 15
  have c16 := hs3.cell 16
  have f15 := hs3.free 15
  have f16 := hs3.free 16
  simp only [List.getElem?_toArray, List.getElem?_cons_zero, List.getElem?_cons_succ] at c15 c16
  have hl3 := hs3.lt
  clear hs3
  obtain ⟨hn1, hn2⟩ := HNX.out
  have H5 := hid (fr5_of (now := now) HF3.out (by omega) (by omega))
  go_upto_region 4 with fail
  refine wp_genS ?_
  intro w5 hw5
  rw [← hw5] at H5
  clear hw5 c15 c16 f15 f16 hl3 hn1 hn2
  have hl5 := H5.out.b.lt
  have XS : Hid (∀ w', Below w5.heap.size w5 w' → ∀ a5 c5, Blk w5 gS #[.pointer (some ⟨gB, 0, none⟩), .int .i64 node, .int .i64 c.a0, .int .i64 c.a1, .int .i64 c.a2, .int .i64 c.buf, .int .i64 c.batch, .int .i64 c.every, .int .i64 c.flight, .int .i64 c.retry, .int .i64 c.tries, .int .i64 c.a9, .int .i64 c.a10, .slice c.ida c.idn c.idc, .slice a5 x.way.length c5, .int .i64 (x.next + 1 : Nat), .int .i64 now, .int .i64 x.acked, .int .i64 x.given] 71 → Calls Try.prog 81 #[.slice a5 x.way.length c5, .agg #[.int .i64 node, .int .i64 x.next, .slice a (takenX c x).length cap], .int .i64 now, .int .i64 c.retry] w' (Ret (SendR w5 (x.way ++ [oneX node c x now])))) := hid (fun w' hb a5 c5 hb5 => by
    obtain ⟨a6, c6, hb6, hq6⟩ := H5.out.si.bs
    have e1 : w5.cell? ⟨gS, 14, none⟩ = some (.slice a5 x.way.length c5) := hb5.cell 14
    have e2 : w5.cell? ⟨gS, 14, none⟩ = some (.slice a6 x.way.length c6) := hb6.cell 14
    have e3 := e1.symm.trans e2
    simp only [Option.some.injEq, Value.slice.injEq, true_and] at e3
    obtain ⟨rfl, rfl⟩ := e3
    refine (C26.send_any (p := fun b => b < w5.heap.size ∧ b ∉ gS :: (own gB h ++ x.far)) (.slice a5 x.way.length c5) x.way ⟨node, x.next, a, cap, takenX c x, 0, 0⟩ now c.retry w' (hq6.below hb (fun b hb => hb.1)) (fun b hb' => Nat.lt_of_lt_of_le hb'.1 hb.size) ?_ htk HCL.out HSP.out).mono ?_
    · exact (H5.out.sp.below hb (fun b hb => hb.2.1)).imp (fun b hb' => by have := hb.size; omega)
    · rintro e w'' ⟨v, rfl, hb2, hq2⟩
      exact ⟨v, rfl, hb.trans (hb2.mono hb.size), hq2.imp (fun b hb' => ⟨Nat.le_trans hb.size hb'.1, hb'.2⟩)⟩)
  obtain ⟨a5, c5, hs5, -⟩ := H5.out.si.bs
  have HS5 := hid hs5
  have c14 := hs5.cell 14
  simp only [List.getElem?_toArray, List.getElem?_cons_zero, List.getElem?_cons_succ] at c14
  clear hs5
  have hgb1 := HF3.out.gb
  have KEEP : Hid (∀ w', Below w5.heap.size w5 w' → w'.cell? ⟨gS, 9, none⟩ = some (.int .i64 c.retry) ∧ w'.cell? ⟨gb, 0, none⟩ = some (.int .i64 node) ∧ w'.cell? ⟨gb, 1, none⟩ = some (.int .i64 x.next) ∧ w'.cell? ⟨gb, 2, none⟩ = some (.slice a (takenX c x).length cap) ∧ (∃ y, w'.cell? ⟨gS, 14, none⟩ = some y) ∧ w'.frozen? ⟨gS, 14, none⟩ = false) := hid (fun w' hb => ⟨(HS5.out.later hb).cell 9, (H5.out.b.later hb).cell 0, (H5.out.b.later hb).cell 1, (H5.out.b.later hb).cell 2, ⟨_, (HS5.out.later hb).cell 14⟩, (HS5.out.later hb).free 14⟩)
  have KEEP2 : Hid (∀ w6 v6, Below w5.heap.size w5 w6 → (fun w' => w'.cell? ⟨gS, 9, none⟩ = some (.int .i64 c.retry) ∧ w'.cell? ⟨gb, 0, none⟩ = some (.int .i64 node) ∧ w'.cell? ⟨gb, 1, none⟩ = some (.int .i64 x.next) ∧ w'.cell? ⟨gb, 2, none⟩ = some (.slice a (takenX c x).length cap) ∧ (∃ y, w'.cell? ⟨gS, 14, none⟩ = some y) ∧ w'.frozen? ⟨gS, 14, none⟩ = false) (w6.setCell ⟨gS, 14, none⟩ v6)) := hid (fun w6 v6 hb => by
    have hk := (HS5.out.later hb).set 14 v6
    have hk2 := (H5.out.b.later hb).other (p := ⟨gS, 14, none⟩) (by show gb ≠ gS; omega) v6
    exact ⟨hk.cell 9, hk2.cell 0, hk2.cell 1, hk2.cell 2, ⟨_, hk.cell 14⟩, hk.free 14⟩)
  go_wp2_with fail
  refine wp_region_held_drew (S := (fun w' => w'.cell? ⟨gS, 9, none⟩ = some (.int .i64 c.retry) ∧ w'.cell? ⟨gb, 0, none⟩ = some (.int .i64 node) ∧ w'.cell? ⟨gb, 1, none⟩ = some (.int .i64 x.next) ∧ w'.cell? ⟨gb, 2, none⟩ = some (.slice a (takenX c x).length cap) ∧ (∃ y, w'.cell? ⟨gS, 14, none⟩ = some y) ∧ w'.frozen? ⟨gS, 14, none⟩ = false)) (by kernel_rfl) (by (first | (refine KEEP2.out _ _ ?_; assumption) | (refine KEEP.out _ ?_; (repeat' (first | assumption | (with_reducible exact Below.refl _ _) | (with_reducible refine Below.drew ?_) | (with_reducible refine Below.alloc ?_ (by first | exact Nat.le_refl _ | (exact Below.size (by assumption)) | (simp; done) | (simp; omega)) _)))))) (fun hHeld => ?_)
  refine wpAnyH_take (i := 0) (oi := ⟨_, _, _, _, _, _⟩) (v := ?_) rfl (by kernel_rfl) (by kernel_rfl) (by kernel_rfl) (fun _ _ _ h => h) (Or.inl ⟨by rfl, ?_⟩) hHeld ?_
  rotate_left
  · (intro w hSw; (try dsimp only at hSw); go_simp) <;> with_reducible rfl
  try simp only [Act.put, List.setIfInBounds_toArray, List.set_cons_zero, List.set_cons_succ]
  refine wpAnyH_take (i := 1) (oi := ⟨_, _, _, _, _, _⟩) (v := ?_) rfl (by kernel_rfl) (by kernel_rfl) (by kernel_rfl) (fun _ _ _ h => h) (Or.inl ⟨by rfl, ?_⟩) hHeld ?_
  rotate_left
  · (intro w hSw; (try dsimp only at hSw); go_simp) <;> with_reducible rfl
  try simp only [Act.put, List.setIfInBounds_toArray, List.set_cons_zero, List.set_cons_succ]
  refine wpAnyH_take (i := 2) (oi := ⟨_, _, _, _, _, _⟩) (v := ?_) rfl (by kernel_rfl) (by kernel_rfl) (by kernel_rfl) (fun _ _ _ h => h) (Or.inl ⟨by rfl, ?_⟩) hHeld ?_
  rotate_left
  · (intro w hSw; (try dsimp only at hSw); go_simp) <;> with_reducible rfl
  try simp only [Act.put, List.setIfInBounds_toArray, List.set_cons_zero, List.set_cons_succ]
  refine wpAnyH_take (i := 3) (oi := ⟨_, _, _, _, _, _⟩) (v := ?_) rfl (by kernel_rfl) (by kernel_rfl) (by kernel_rfl) (fun _ _ _ h => h) (Or.inl ⟨by rfl, ?_⟩) hHeld ?_
  rotate_left
  · (intro w hSw; (try dsimp only at hSw); go_simp) <;> with_reducible rfl
  try simp only [Act.put, List.setIfInBounds_toArray, List.set_cons_zero, List.set_cons_succ]
  refine wpAnyH_take (i := 5) (oi := ⟨_, _, _, _, _, _⟩) (v := ?_) rfl (by kernel_rfl) (by kernel_rfl) (by kernel_rfl) (fun _ _ _ h => h) (Or.inl ⟨by rfl, ?_⟩) hHeld ?_
  rotate_left
  · (intro w hSw; (try dsimp only at hSw); go_simp) <;> with_reducible rfl
  try simp only [Act.put, List.setIfInBounds_toArray, List.set_cons_zero, List.set_cons_succ]
  refine wpAnyH_take (i := 6) (oi := ⟨_, _, _, _, _, _⟩) (v := ?_) rfl (by kernel_rfl) (by kernel_rfl) (by kernel_rfl) (fun _ _ _ h => h) (Or.inl ⟨by rfl, ?_⟩) hHeld ?_
  rotate_left
  · (intro w hSw; (try dsimp only at hSw); go_simp) <;> with_reducible rfl
  try simp only [Act.put, List.setIfInBounds_toArray, List.set_cons_zero, List.set_cons_succ]
  refine wpAnyH_take (i := 7) (oi := ⟨_, _, _, _, _, _⟩) (v := ?_) rfl (by kernel_rfl) (by kernel_rfl) (by kernel_rfl) (fun _ _ _ h => h) (Or.inl ⟨by rfl, ?_⟩) hHeld ?_
  rotate_left
  · (intro w hSw; (try dsimp only at hSw); go_simp) <;> with_reducible rfl
  try simp only [Act.put, List.setIfInBounds_toArray, List.set_cons_zero, List.set_cons_succ]
  refine wpAnyH_take (i := 8) (oi := ⟨_, _, _, _, _, _⟩) (v := ?_) rfl (by kernel_rfl) (by kernel_rfl) (by kernel_rfl) (fun _ _ _ h => h) (Or.inl ⟨by rfl, ?_⟩) hHeld ?_
  rotate_left
  · (intro w hSw; (try dsimp only at hSw); go_simp) <;> with_reducible rfl
  try simp only [Act.put, List.setIfInBounds_toArray, List.set_cons_zero, List.set_cons_succ]
  refine wpAnyH_take (i := 9) (oi := ⟨_, _, _, _, _, _⟩) (v := ?_) rfl (by kernel_rfl) (by kernel_rfl) (by kernel_rfl) (fun _ _ _ h => h) (Or.inl ⟨by rfl, ?_⟩) hHeld ?_
  rotate_left
  · (intro w hSw; (try dsimp only at hSw); go_simp) <;> with_reducible rfl
  try simp only [Act.put, List.setIfInBounds_toArray, List.set_cons_zero, List.set_cons_succ]
  refine wpAnyH_take (i := 10) (oi := ⟨_, _, _, _, _, _⟩) (v := ?_) rfl (by kernel_rfl) (by kernel_rfl) (by kernel_rfl) (fun _ _ _ h => h) (Or.inl ⟨by rfl, ?_⟩) hHeld ?_
  rotate_left
  · (intro w hSw; (try dsimp only at hSw); go_simp) <;> with_reducible rfl
  try simp only [Act.put, List.setIfInBounds_toArray, List.set_cons_zero, List.set_cons_succ]
  refine wpAnyH_take (i := 11) (oi := ⟨_, _, _, _, _, _⟩) (v := ?_) rfl (by kernel_rfl) (by kernel_rfl) (by kernel_rfl) (fun _ _ _ h => h) (Or.inl ⟨by rfl, ?_⟩) hHeld ?_
  rotate_left
  · (intro w hSw; (try dsimp only at hSw); go_simp) <;> with_reducible rfl
  try simp only [Act.put, List.setIfInBounds_toArray, List.set_cons_zero, List.set_cons_succ]
  refine wpAnyH_ready (rs := [4]) (by kernel_rfl) (by simp) ?_
  refine AllReadyH.cons (o := ⟨_, _, _, _, _, _⟩) rfl (fun K hK => ?_) AllReadyH.nil
  clear hHeld
  go_simp
  refine hK.out _ _ (by (first | (refine KEEP2.out _ _ ?_; assumption) | (refine KEEP.out _ ?_; (repeat' (first | assumption | (with_reducible exact Below.refl _ _) | (with_reducible refine Below.drew ?_) | (with_reducible refine Below.alloc ?_ (by first | exact Nat.le_refl _ | (exact Below.size (by assumption)) | (simp; done) | (simp; omega)) _)))))) (fun hHeld => ?_)
  clear hK K
  try simp only [Act.put, List.setIfInBounds_toArray, List.set_cons_zero, List.set_cons_succ]
  refine wpAnyH_ready (rs := [12]) (by kernel_rfl) (by simp) ?_
  refine AllReadyH.cons (o := ⟨_, _, _, _, _, _⟩) rfl (fun K hK => ?_) AllReadyH.nil
  clear hHeld
  go_simp
  go_at_call 81
  refine (XS.out _ (by first | assumption | exact Below.refl _ _ | exact (Below.refl _ _).drew) a5 c5 HS5.out).mono ?_
  rintro e w6 ⟨v6, rfl, hR6⟩
  obtain ⟨n6, a6, c6, rfl⟩ : ∃ n a c, v6 = .slice a n c := by obtain ⟨a, c, e⟩ := hR6.2.form; exact ⟨_, a, c, e⟩
  have HR6 := hid hR6
  have hB6 := hR6.1
  clear hR6
  have c14' := (HS5.out.later hB6).cell 14
  have f14' := (HS5.out.later hB6).free 14
  simp only [List.getElem?_toArray, List.getElem?_cons_zero, List.getElem?_cons_succ] at c14'
  refine hK.out _ _ (by (first | (refine KEEP2.out _ _ ?_; assumption) | (refine KEEP.out _ ?_; (repeat' (first | assumption | (with_reducible exact Below.refl _ _) | (with_reducible refine Below.drew ?_) | (with_reducible refine Below.alloc ?_ (by first | exact Nat.le_refl _ | (exact Below.size (by assumption)) | (simp; done) | (simp; omega)) _)))))) (fun hHeld => ?_)
  clear hK K
  try simp only [Act.put, List.setIfInBounds_toArray, List.set_cons_zero, List.set_cons_succ]
  refine wpAnyH_take (i := 13) (oi := ⟨_, _, _, _, _, _⟩) (v := ?_) rfl (by kernel_rfl) (by kernel_rfl) (by kernel_rfl) (fun _ _ _ h => h) (Or.inl ⟨by rfl, ?_⟩) hHeld ?_
  rotate_left
  · (intro w hSw; (try dsimp only at hSw); go_simp) <;> with_reducible rfl
  try simp only [Act.put, List.setIfInBounds_toArray, List.set_cons_zero, List.set_cons_succ]
  refine wpAnyH_take (i := 14) (oi := ⟨_, _, _, _, _, _⟩) (v := ?_) rfl (by kernel_rfl) (by kernel_rfl) (by kernel_rfl) (fun _ _ _ h => h) (Or.inl ⟨by rfl, ?_⟩) hHeld ?_
  rotate_left
  · (intro w hSw; (try dsimp only at hSw); go_simp) <;> with_reducible rfl
  try simp only [Act.put, List.setIfInBounds_toArray, List.set_cons_zero, List.set_cons_succ]
  refine wpAnyH_ready (rs := [15]) (by kernel_rfl) (by simp) ?_
  refine AllReadyH.cons (o := ⟨_, _, _, _, _, _⟩) rfl (fun K hK => ?_) AllReadyH.nil
  clear hHeld
  go_simp
  refine hK.out _ _ (by (first | (refine KEEP2.out _ _ ?_; assumption) | (refine KEEP.out _ ?_; (repeat' (first | assumption | (with_reducible exact Below.refl _ _) | (with_reducible refine Below.drew ?_) | (with_reducible refine Below.alloc ?_ (by first | exact Nat.le_refl _ | (exact Below.size (by assumption)) | (simp; done) | (simp; omega)) _)))))) (fun hHeld => ?_)
  clear hK K
  try simp only [Act.put, List.setIfInBounds_toArray, List.set_cons_zero, List.set_cons_succ]
  refine wpAnyH_done (by kernel_rfl) ?_ _
  have HF7 := hid (fresh_fin (Only.of_below HB1.out) HX.out hl1 hgb1 H5.out HR6.out)
  clear XS HS5 c14 KEEP KEEP2 c14' f14' hHeld HR6 hB6 hl5
  go_upto_region 5 with fail
  refine wp_genS ?_
  intro w7 hw7
  rw [← hw7] at HF7
  clear hw7
  obtain ⟨ho7, hs7, hr7, hb7, hsp7⟩ := HF7.out
  obtain ⟨y0, y1, y2⟩ := C10.blk3o hr7
  obtain ⟨z0, z1, z2⟩ := C10.blk3o hb7
  have yf := hr7.free
  have hl7 := hr7.lt
  have HO7 := hid ho7
  have HS7 := hid hs7
  have HSP7 := hid hsp7
  clear ho7 hs7 hr7 hb7 hsp7 HF7
  go_wp2_with fail
  refine bodyPost_ret (by simp [results, Try.results50, go_sem, y0, y1, y2]; try rfl) rfl ?_
  have hnW : W.heap.size ∉ gS :: own gB h := fun hm => by rcases List.mem_cons.1 hm with e | hm; (omega); have := HOWN.out _ hm; omega
  have ho3 : Only [W.heap.size] w7 (((w7.setCell ⟨W.heap.size, 0, none⟩ (.int .i64 node)).setCell ⟨W.heap.size, 1, none⟩ (.int .i64 x.next)).setCell ⟨W.heap.size, 2, none⟩ (.slice a (takenX c x).length cap)) := by
    iterate 3 (refine Only.setCell ?_ (by simp) _)
    exact Only.refl _ _
  exact ⟨a, cap, rfl, fr_out HO7.out ho3 hgs, hid ⟨fun Y w8 hY h8 => HS7.out (W.heap.size :: Y) w8 (fun b hb => by rcases List.mem_cons.1 hb with rfl | hb; (exact ⟨Nat.le_refl _, hnW⟩); exact ⟨Nat.le_of_lt (hY b hb).1, (hY b hb).2⟩) ((ho3.mono (by simp)).trans (h8.mono (fun k hk => List.mem_cons_of_mem _ hk))), (HSP7.out.only ho3 (fun b hb => ⟨hb.2, by have := hb.1; simp; omega⟩)).imp (fun b hb => ⟨by have := hb.1; omega, Nat.lt_of_lt_of_le hb.2 ho3.size⟩)⟩⟩
end C27
end Go.Proofs.Ytcohcanakicmpaa
