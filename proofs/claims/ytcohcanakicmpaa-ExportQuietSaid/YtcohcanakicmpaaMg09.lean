/- Walks of layer 27 (export): a sender's step. Walks of layer 4 (head): lists of headers: whether they may be, where one stands, its values, one more, alike; no condition. Walks of layer 4 (head): lists alike; few headers; no condition. Walks of layer 27 (export): an exporter's tick. Walks of layer 27 (export): a batch is acknowledged. -/
import Derived.Test.YtcohcanakicmpaaMg08
import Derived.Test.YtcohcanakicmpaaMg03
import Derived.Test.YtcohcanakicmpaaMg02
import Derived.Deep.QuietTactic
import Derived.BigQuiet
namespace Go.Proofs.Ytcohcanakicmpaa
open Go.RowKit Go.Peri
open Sq (rest ixQ atQ total bk benc)
open Gen (owns_le owns_below)
open C26 (QR BR BO Fresh dueI SendR StepR restS againS givenS fate elemB benc_len)
open C25 (BufIs roomR own Moved putR blk11 takeN TakeQ)
open C09 (chS)
namespace C27
/-- What keeps all numbers small. -/
structure Bd (x : Xs) : Prop where
  way : x.way.length ≤ 8
  sp : ∀ k ∈ x.way, k.sp.length ≤ 16 ∧ 0 ≤ k.tries ∧ k.tries ≤ 1000000
  given : x.given ≤ 100000
  acked : x.acked ≤ 100000
  next : x.next ≤ 100000
  last : 0 ≤ x.last ∧ x.last ≤ 1099511627776
def restX (c : Lim) (x : Xs) (now : Int) : Xs := { x with way := restS now c.retry c.tries x.way, given := x.given + total (givenS now c.tries x.way) }
def stepX (node : Int) (c : Lim) (x : Xs) (now : Int) : Xs × List (Int × Int × List Sp) :=
  if readyB c (restX c x now) now = true then (freshX node c (restX c x now) now, (againS now c.tries x.way).map bk ++ [(node, (x.next : Int), takenX c x)]) else (restX c x now, (againS now c.tries x.way).map bk)
theorem rest_mem {now retry tries : Int} {l : List Sq} {k : Sq} (hk : k ∈ restS now retry tries l) : ∃ k0 ∈ l, k.sp = k0.sp ∧ k.seq = k0.seq ∧ k.node = k0.node := by
  unfold restS at hk
  rw [List.mem_flatMap] at hk
  obtain ⟨y, hy, hk⟩ := hk
  refine ⟨y, hy, ?_⟩
  split at hk
  · simp at hk; subst hk; exact ⟨rfl, rfl, rfl⟩
  · split at hk
    · simp at hk
    · simp at hk; subst hk; exact ⟨rfl, rfl, rfl⟩
theorem rest_len (now retry tries : Int) (l : List Sq) : (restS now retry tries l).length ≤ l.length := by
  induction l with
  | nil => simp [restS]
  | cons y l ih =>
    unfold restS at ih ⊢
    rw [List.flatMap_cons, List.length_append, List.length_cons]
    have : (if fate now tries y = 0 then [y] else if fate now tries y = 1 then [] else [{ y with tries := y.tries + 1, due := dueI now retry }]).length ≤ 1 := by
      split
      · simp
      · split <;> simp
    omega
theorem total16 {l : List Sq} (h : ∀ x ∈ l, x.sp.length ≤ 16) : total l ≤ l.length * 16 := by
  induction l with
  | nil => simp [total]
  | cons x l ih =>
    have h1 := h x (by simp)
    have h2 := ih (fun y hy => h y (by simp [hy]))
    simp only [total, List.map_cons, List.sum_cons, List.length_cons] at *
    omega
theorem total_cat (a b : List Sq) : total (a ++ b) = total a + total b := by simp [total]
theorem total_cons (x : Sq) (b : List Sq) : total (x :: b) = x.sp.length + total b := by simp [total]
theorem total_cut {l : List Sq} {k : Nat} (hk : k < l.length) : total l = total (l.take k) + (l[k].sp.length + total (l.drop (k + 1))) := by
  have e : l = l.take k ++ l[k] :: l.drop (k + 1) := by rw [← List.drop_eq_getElem_cons hk, List.take_append_drop]
  have e2 : total l = total (l.take k ++ l[k] :: l.drop (k + 1)) := congrArg total e
  rw [total_cat, total_cons] at e2
  exact e2
theorem total_bk {l m : List Sq} (h : l.map bk = m.map bk) : total l = total m := by
  have e : ∀ l : List Sq, total l = ((l.map bk).map (fun b => b.2.2.length)).sum := fun l => by
    unfold total; rw [List.map_map]; rfl
  rw [e, e, h]
theorem given_sum {x : Xs} (bd : Bd x) (now : Int) (c : Lim) : total (givenS now c.tries x.way) ≤ 128 := by
  have h1 : (givenS now c.tries x.way).length ≤ x.way.length := List.length_filter_le _ _
  have h2 := total16 (l := givenS now c.tries x.way) (fun y hy => (bd.sp y (List.mem_filter.1 hy).1).1)
  have := bd.way
  omega
theorem bat_cells {w : World} {b o : Nat} {k : Sq} (h : ∀ j u, (benc k)[j]? = some u → w.cell? ⟨b, o + j, none⟩ = some u) : w.cell? ⟨b, o, none⟩ = some (.int .i64 k.node) ∧ w.cell? ⟨b, o + 1, none⟩ = some (.int .i64 k.seq) ∧ w.cell? ⟨b, o + 2, none⟩ = some (.slice k.pa k.sp.length k.pcap) := ⟨h 0 _ rfl, h 1 _ rfl, h 2 _ rfl⟩
def StepQ (W : World) (gS gB : Nat) (h : Option Nat) (node : Int) (c : Lim) (x : Xs) (now : Int) (e : Ending) (w' : World) : Prop :=
  ∃ v, e = .returned v ∧ Only (gS :: own gB h) W w' ∧ Hid (SIs w' gS gB h node c (stepX node c x now).1 ∧ BR (Fresh W.heap.size w') w' (stepX node c x now).2 v)
theorem step_push_fin {W w5 w6 w9 : World} {gS gB : Nat} {h : Option Nat} {node : Int} {c : Lim} {x : Xs} {now : Int} {va : Value} {a a9 : Option Addr} {cap n9 cap9 : Nat} {bl : List (Int × Int × List Sp)} {kA : List Sq} (hs : SIs W gS gB h node c x) {x1 : Xs}
    (h5 : Only (gS :: own gB h) W w5) (hk : kA.map bk = bl) (hown : w5.ownsRow W.heap.size 45 3 va kA.length (kA.flatMap benc)) (hat : ∀ k ∈ kA, k.At (fun b => W.heap.size ≤ b ∧ b < w5.heap.size ∧ b ∉ blocks va) w5)
    (h6 : Only (gS :: own gB h) w5 w6) (hf : (∀ Y w8, (∀ b, b ∈ Y → b < w5.heap.size ∧ b ∉ gS :: own gB h) → Only Y w6 w8 → SIs w8 gS gB h node c (freshX node c x1 now)) ∧ RowsOf (Fresh w5.heap.size w6) Sp.enc 11 w6 (.slice a (takenX c x1).length cap) (takenX c x1))
    (h9 : Only (blocks va) w6 w9) (hown9 : w9.ownsRow W.heap.size 45 3 (.slice a9 n9 cap9) (kA.length + 1) (kA.flatMap benc ++ [.int .i64 node, .int .i64 x1.next, .slice a (takenX c x1).length cap])) :
    Only (gS :: own gB h) W w9 ∧ SIs w9 gS gB h node c (freshX node c x1 now) ∧ BR (Fresh W.heap.size w9) w9 (bl ++ [(node, (x1.next : Int), takenX c x1)]) (.slice a9 n9 cap9) := by
  have hgW : ∀ b ∈ gS :: own gB h, b < W.heap.size := fun b hb => by
    rcases List.mem_cons.1 hb with rfl | hb
    · exact hs.gSlt
    · exact hs.bb.lt b hb
  have hbd := owns_bd hown
  have z5 := h5.size
  have z6 := h6.size
  have z9 := h9.size
  have hat6 : ∀ k ∈ kA, k.At (fun b => W.heap.size ≤ b ∧ b < w6.heap.size ∧ b ∉ blocks va) w6 := fun k hk => ((hat k hk).only h6 (fun b hb => ⟨hb.2.1, fun hm => by have := hgW b hm; omega⟩)).imp (fun b hb => ⟨hb.1, by omega, hb.2.2⟩)
  refine ⟨⟨h9.os.trans (h6.os.trans h5.os), h9.tape.trans (h6.tape.trans h5.tape), h9.output.trans (h6.output.trans h5.output), by omega, fun i hi hn => (h9.block i (by omega) (fun hm => by have := hbd i hm; omega)).trans ((h6.block i (by omega) hn).trans (h5.block i hi hn))⟩, hf.1 (blocks va) w9 (fun b hb => ⟨(hbd b hb).2, fun hm => by have := hgW b hm; have := hbd b hb; omega⟩) h9, kA ++ [⟨node, x1.next, a, cap, takenX c x1, 0, 0⟩], ?_, ?_, ?_⟩
  · rw [List.map_append, hk]; rfl
  · have e : (kA ++ [(⟨node, x1.next, a, cap, takenX c x1, 0, 0⟩ : Sq)]).flatMap benc = kA.flatMap benc ++ [.int .i64 node, .int .i64 x1.next, .slice a (takenX c x1).length cap] := by
      rw [List.flatMap_append]; simp [Sq.benc]
    have hl : (kA ++ [(⟨node, x1.next, a, cap, takenX c x1, 0, 0⟩ : Sq)]).length = kA.length + 1 := by simp
    have hr : RowsOf (fun b => W.heap.size ≤ b ∧ b < w9.heap.size) benc 3 w9 (.slice a9 n9 cap9) (kA ++ [(⟨node, x1.next, a, cap, takenX c x1, 0, 0⟩ : Sq)]) := RowsOf.of_owns (enc := benc) benc_len (by rw [e, hl]; exact hown9)
    exact hr
  · intro k hk
    rcases List.mem_append.1 hk with hk | hk
    · exact ((hat6 k hk).only h9 (fun b hb => hb.2)).imp (fun b hb => ⟨hb.1, by omega⟩)
    · obtain rfl := List.mem_singleton.1 hk
      have h2 : RowsOf (Fresh W.heap.size w9) Sp.enc 11 w9 (.slice a (takenX c x1).length cap) (takenX c x1) := (hf.2.only h9 (fun b hb => ⟨hb.2, fun hm => by have := (hbd b hm).2; have := hb.1; omega⟩)).imp (fun b hb => ⟨by have := hb.1; omega, by have := hb.2; omega⟩)
      exact h2
set_option maxRecDepth 100000 in
set_option maxHeartbeats 16000000 in
theorem step_any (gS gB : Nat) (h : Option Nat) (node : Int) (c : Lim) (x : Xs) (now : Int) (W : World) (hx : SIs W gS gB h node c x) (bd : Bd x) (hn : 0 ≤ now ∧ now ≤ 1099511627776) :
    Calls Try.prog 27 #[.pointer (some ⟨gS, 0, none⟩), .int .i64 now] W (StepQ W gS gB h node c x now) := by
  have HX := hid hx
  have HBD := hid bd
  have HN := hid hn
  have hgs := hx.gSlt
  have hgsum := given_sum bd now c
  have hgv := bd.given
  obtain ⟨a0, cap0, hb0, hq0⟩ := hx.bs
  have HB0 := hid hb0
  have XS : Hid (∀ w', Below W.heap.size W w' → Calls Try.prog 48 #[.slice a0 x.way.length cap0, .int .i64 now, .int .i64 c.retry, .int .i64 c.tries] w' (Ret (StepR W x.way now c.retry c.tries))) := hid (fun w' hb => by
    refine (C26.step_any (p := fun b => b < W.heap.size ∧ b ∉ gS :: (own gB h ++ x.far)) (.slice a0 x.way.length cap0) x.way now c.retry c.tries w' (hq0.below hb (fun b hb => hb.1)) (fun b hb' => Nat.lt_of_lt_of_le hb'.1 hb.size) (by have := HBD.out.way; omega) (fun k hk => ⟨by have := (HBD.out.sp k hk).1; omega, (HBD.out.sp k hk).2⟩)).mono ?_
    rintro e w'' ⟨v, rfl, hb2, v1, va, vg, rfl, q1, q2, q3⟩
    exact ⟨_, rfl, hb.trans (hb2.mono hb.size), v1, va, vg, rfl, q1.imp (fun b hb' => ⟨Nat.le_trans hb.size hb'.1, hb'.2⟩), q2.le hb.size, q3.imp (fun b hb' => ⟨Nat.le_trans hb.size hb'.1, hb'.2⟩)⟩)
  have KEEP : Hid (∀ w', Below W.heap.size W w' → w'.cell? ⟨gS, 9, none⟩ = some (.int .i64 c.retry) ∧ w'.cell? ⟨gS, 10, none⟩ = some (.int .i64 c.tries) ∧ w'.cell? ⟨gS, 14, none⟩ = some (.slice a0 x.way.length cap0)) := hid (fun w' hb => ⟨(HB0.out.later hb).cell 9, (HB0.out.later hb).cell 10, (HB0.out.later hb).cell 14⟩)
  clear hx bd hn hb0 hq0
  go_enter Try.func27, Try.ntmps27
  go_wp2_with fail
  refine wp_region_held_drew (S := (fun w' => w'.cell? ⟨gS, 9, none⟩ = some (.int .i64 c.retry) ∧ w'.cell? ⟨gS, 10, none⟩ = some (.int .i64 c.tries) ∧ w'.cell? ⟨gS, 14, none⟩ = some (.slice a0 x.way.length cap0))) (by kernel_rfl) (by (refine KEEP.out _ ?_; (repeat' (first | assumption | (with_reducible exact Below.refl _ _) | (with_reducible refine Below.drew ?_) | (with_reducible refine Below.alloc ?_ (by first | exact Nat.le_refl _ | (exact Below.size (by assumption)) | (simp; done) | (simp; omega)) _))))) (fun hHeld => ?_)
  refine wpAnyH_take (i := 0) (oi := ⟨_, _, _, _, _, _⟩) (v := ?_) rfl (by kernel_rfl) (by kernel_rfl) (by kernel_rfl) (fun _ _ _ h => h) (Or.inl ⟨by rfl, ?_⟩) hHeld ?_
  rotate_left
  · (intro w hSw; (try dsimp only at hSw); go_simp) <;> with_reducible rfl
  try simp only [Act.put, List.setIfInBounds_toArray, List.set_cons_zero, List.set_cons_succ]
  refine wpAnyH_take (i := 1) (oi := ⟨_, _, _, _, _, _⟩) (v := ?_) rfl (by kernel_rfl) (by kernel_rfl) (by kernel_rfl) (fun _ _ _ h => h) (Or.inl ⟨by rfl, ?_⟩) hHeld ?_
  rotate_left
  · (intro w hSw; (try dsimp only at hSw); go_simp) <;> with_reducible rfl
  try simp only [Act.put, List.setIfInBounds_toArray, List.set_cons_zero, List.set_cons_succ]
  refine wpAnyH_take (i := 2) (oi := ⟨_, _, _, _, _, _⟩) (v := ?_) rfl (by kernel_rfl) (by kernel_rfl) (by kernel_rfl) (fun _ _ _ h => h) (Or.inl ⟨by rfl, ?_⟩) hHeld ?_
  rotate_left
  · (intro w hSw; (try dsimp only at hSw); go_simp) <;> with_reducible rfl
  try simp only [Act.put, List.setIfInBounds_toArray, List.set_cons_zero, List.set_cons_succ]
  refine wpAnyH_take (i := 3) (oi := ⟨_, _, _, _, _, _⟩) (v := ?_) rfl (by kernel_rfl) (by kernel_rfl) (by kernel_rfl) (fun _ _ _ h => h) (Or.inl ⟨by rfl, ?_⟩) hHeld ?_
  rotate_left
  · (intro w hSw; (try dsimp only at hSw); go_simp) <;> with_reducible rfl
  try simp only [Act.put, List.setIfInBounds_toArray, List.set_cons_zero, List.set_cons_succ]
  refine wpAnyH_take (i := 4) (oi := ⟨_, _, _, _, _, _⟩) (v := ?_) rfl (by kernel_rfl) (by kernel_rfl) (by kernel_rfl) (fun _ _ _ h => h) (Or.inl ⟨by rfl, ?_⟩) hHeld ?_
  rotate_left
  · (intro w hSw; (try dsimp only at hSw); go_simp) <;> with_reducible rfl
  try simp only [Act.put, List.setIfInBounds_toArray, List.set_cons_zero, List.set_cons_succ]
  refine wpAnyH_take (i := 5) (oi := ⟨_, _, _, _, _, _⟩) (v := ?_) rfl (by kernel_rfl) (by kernel_rfl) (by kernel_rfl) (fun _ _ _ h => h) (Or.inl ⟨by rfl, ?_⟩) hHeld ?_
  rotate_left
  · (intro w hSw; (try dsimp only at hSw); go_simp) <;> with_reducible rfl
  try simp only [Act.put, List.setIfInBounds_toArray, List.set_cons_zero, List.set_cons_succ]
  refine wpAnyH_take (i := 6) (oi := ⟨_, _, _, _, _, _⟩) (v := ?_) rfl (by kernel_rfl) (by kernel_rfl) (by kernel_rfl) (fun _ _ _ h => h) (Or.inl ⟨by rfl, ?_⟩) hHeld ?_
  rotate_left
  · (intro w hSw; (try dsimp only at hSw); go_simp) <;> with_reducible rfl
  try simp only [Act.put, List.setIfInBounds_toArray, List.set_cons_zero, List.set_cons_succ]
  refine wpAnyH_take (i := 7) (oi := ⟨_, _, _, _, _, _⟩) (v := ?_) rfl (by kernel_rfl) (by kernel_rfl) (by kernel_rfl) (fun _ _ _ h => h) (Or.inl ⟨by rfl, ?_⟩) hHeld ?_
  rotate_left
  · (intro w hSw; (try dsimp only at hSw); go_simp) <;> with_reducible rfl
  try simp only [Act.put, List.setIfInBounds_toArray, List.set_cons_zero, List.set_cons_succ]
  refine wpAnyH_take (i := 8) (oi := ⟨_, _, _, _, _, _⟩) (v := ?_) rfl (by kernel_rfl) (by kernel_rfl) (by kernel_rfl) (fun _ _ _ h => h) (Or.inl ⟨by rfl, ?_⟩) hHeld ?_
  rotate_left
  · (intro w hSw; (try dsimp only at hSw); go_simp) <;> with_reducible rfl
  try simp only [Act.put, List.setIfInBounds_toArray, List.set_cons_zero, List.set_cons_succ]
  refine wpAnyH_take (i := 9) (oi := ⟨_, _, _, _, _, _⟩) (v := ?_) rfl (by kernel_rfl) (by kernel_rfl) (by kernel_rfl) (fun _ _ _ h => h) (Or.inl ⟨by rfl, ?_⟩) hHeld ?_
  rotate_left
  · (intro w hSw; (try dsimp only at hSw); go_simp) <;> with_reducible rfl
  try simp only [Act.put, List.setIfInBounds_toArray, List.set_cons_zero, List.set_cons_succ]
  refine wpAnyH_take (i := 10) (oi := ⟨_, _, _, _, _, _⟩) (v := ?_) rfl (by kernel_rfl) (by kernel_rfl) (by kernel_rfl) (fun _ _ _ h => h) (Or.inl ⟨by rfl, ?_⟩) hHeld ?_
  rotate_left
  · (intro w hSw; (try dsimp only at hSw); go_simp) <;> with_reducible rfl
  try simp only [Act.put, List.setIfInBounds_toArray, List.set_cons_zero, List.set_cons_succ]
  refine wpAnyH_take (i := 11) (oi := ⟨_, _, _, _, _, _⟩) (v := ?_) rfl (by kernel_rfl) (by kernel_rfl) (by kernel_rfl) (fun _ _ _ h => h) (Or.inl ⟨by rfl, ?_⟩) hHeld ?_
  rotate_left
  · (intro w hSw; (try dsimp only at hSw); go_simp) <;> with_reducible rfl
  try simp only [Act.put, List.setIfInBounds_toArray, List.set_cons_zero, List.set_cons_succ]
  refine wpAnyH_take (i := 12) (oi := ⟨_, _, _, _, _, _⟩) (v := ?_) rfl (by kernel_rfl) (by kernel_rfl) (by kernel_rfl) (fun _ _ _ h => h) (Or.inl ⟨by rfl, ?_⟩) hHeld ?_
  rotate_left
  · (intro w hSw; (try dsimp only at hSw); go_simp) <;> with_reducible rfl
  try simp only [Act.put, List.setIfInBounds_toArray, List.set_cons_zero, List.set_cons_succ]
  refine wpAnyH_take (i := 13) (oi := ⟨_, _, _, _, _, _⟩) (v := ?_) rfl (by kernel_rfl) (by kernel_rfl) (by kernel_rfl) (fun _ _ _ h => h) (Or.inl ⟨by rfl, ?_⟩) hHeld ?_
  rotate_left
  · (intro w hSw; (try dsimp only at hSw); go_simp) <;> with_reducible rfl
  try simp only [Act.put, List.setIfInBounds_toArray, List.set_cons_zero, List.set_cons_succ]
  refine wpAnyH_take (i := 14) (oi := ⟨_, _, _, _, _, _⟩) (v := ?_) rfl (by kernel_rfl) (by kernel_rfl) (by kernel_rfl) (fun _ _ _ h => h) (Or.inl ⟨by rfl, ?_⟩) hHeld ?_
  rotate_left
  · (intro w hSw; (try dsimp only at hSw); go_simp) <;> with_reducible rfl
  try simp only [Act.put, List.setIfInBounds_toArray, List.set_cons_zero, List.set_cons_succ]
  refine wpAnyH_ready (rs := [15]) (by kernel_rfl) (by simp) ?_
  refine AllReadyH.cons (o := ⟨_, _, _, _, _, _⟩) rfl (fun K hK => ?_) AllReadyH.nil
  clear hHeld
  go_simp
  go_at_call 48
  refine (XS.out _ (by first | assumption | exact Below.refl _ _ | exact (Below.refl _ _).drew)).mono ?_
  rintro e w1 ⟨v, rfl, hB1, v1, va, vg, rfl, hq1, hbo, hbr⟩
  obtain ⟨n1, a1, c1, rfl, hn1⟩ : ∃ n a cc, v1 = .slice a n cc ∧ n = (restS now c.retry c.tries x.way).length := by obtain ⟨a, c, e⟩ := hq1.form; exact ⟨_, a, c, e, rfl⟩
  obtain ⟨na, aa, ca, rfl⟩ : ∃ n a c, va = .slice a n c := by obtain ⟨k, _, e, _⟩ := hbo; obtain ⟨a, c, e⟩ := owns_form e; exact ⟨_, a, c, e⟩
  obtain ⟨lg, hlg, ⟨ag, cg, rfl, -, -, -, hcg⟩, -⟩ := hbr
  have HN1 := hid hn1
  have HQ1 := hid hq1
  have HBO := hid hbo
  have HLG := hid hlg
  have HCG := hid hcg
  have hglen : lg.length ≤ 8 := by
    have e1 := congrArg List.length hlg
    simp only [List.length_map] at e1
    have e2 : (givenS now c.tries x.way).length ≤ x.way.length := List.length_filter_le _ _
    have := HBD.out.way
    omega
  clear hn1 hq1 hbo hlg hcg
  refine hK.out _ _ (by (refine KEEP.out _ ?_; (repeat' (first | assumption | (with_reducible exact Below.refl _ _) | (with_reducible refine Below.drew ?_) | (with_reducible refine Below.alloc ?_ (by first | exact Nat.le_refl _ | (exact Below.size (by assumption)) | (simp; done) | (simp; omega)) _))))) (fun hHeld => ?_)
  clear hK K
  try simp only [Act.put, List.setIfInBounds_toArray, List.set_cons_zero, List.set_cons_succ]
  refine wpAnyH_take (i := 16) (oi := ⟨_, _, _, _, _, _⟩) (v := ?_) rfl (by kernel_rfl) (by kernel_rfl) (by kernel_rfl) (fun _ _ _ h => h) (Or.inl ⟨by rfl, ?_⟩) hHeld ?_
  rotate_left
  · (intro w hSw; (try dsimp only at hSw); go_simp) <;> with_reducible rfl
  try simp only [Act.put, List.setIfInBounds_toArray, List.set_cons_zero, List.set_cons_succ]
  refine wpAnyH_take (i := 17) (oi := ⟨_, _, _, _, _, _⟩) (v := ?_) rfl (by kernel_rfl) (by kernel_rfl) (by kernel_rfl) (fun _ _ _ h => h) (Or.inl ⟨by rfl, ?_⟩) hHeld ?_
  rotate_left
  · (intro w hSw; (try dsimp only at hSw); go_simp) <;> with_reducible rfl
  try simp only [Act.put, List.setIfInBounds_toArray, List.set_cons_zero, List.set_cons_succ]
  refine wpAnyH_take (i := 18) (oi := ⟨_, _, _, _, _, _⟩) (v := ?_) rfl (by kernel_rfl) (by kernel_rfl) (by kernel_rfl) (fun _ _ _ h => h) (Or.inl ⟨by rfl, ?_⟩) hHeld ?_
  rotate_left
  · (intro w hSw; (try dsimp only at hSw); go_simp) <;> with_reducible rfl
  try simp only [Act.put, List.setIfInBounds_toArray, List.set_cons_zero, List.set_cons_succ]
  refine wpAnyH_take (i := 19) (oi := ⟨_, _, _, _, _, _⟩) (v := ?_) rfl (by kernel_rfl) (by kernel_rfl) (by kernel_rfl) (fun _ _ _ h => h) (Or.inl ⟨by rfl, ?_⟩) hHeld ?_
  rotate_left
  · (intro w hSw; (try dsimp only at hSw); go_simp) <;> with_reducible rfl
  try simp only [Act.put, List.setIfInBounds_toArray, List.set_cons_zero, List.set_cons_succ]
  refine wpAnyH_take (i := 20) (oi := ⟨_, _, _, _, _, _⟩) (v := ?_) rfl (by kernel_rfl) (by kernel_rfl) (by kernel_rfl) (fun _ _ _ h => h) (Or.inl ⟨by rfl, ?_⟩) hHeld ?_
  rotate_left
  · (intro w hSw; (try dsimp only at hSw); go_simp) <;> with_reducible rfl
  try simp only [Act.put, List.setIfInBounds_toArray, List.set_cons_zero, List.set_cons_succ]
  refine wpAnyH_take (i := 21) (oi := ⟨_, _, _, _, _, _⟩) (v := ?_) rfl (by kernel_rfl) (by kernel_rfl) (by kernel_rfl) (fun _ _ _ h => h) (Or.inl ⟨by rfl, ?_⟩) hHeld ?_
  rotate_left
  · (intro w hSw; (try dsimp only at hSw); go_simp) <;> with_reducible rfl
  try simp only [Act.put, List.setIfInBounds_toArray, List.set_cons_zero, List.set_cons_succ]
  refine wpAnyH_take (i := 22) (oi := ⟨_, _, _, _, _, _⟩) (v := ?_) rfl (by kernel_rfl) (by kernel_rfl) (by kernel_rfl) (fun _ _ _ h => h) (Or.inl ⟨by rfl, ?_⟩) hHeld ?_
  rotate_left
  · (intro w hSw; (try dsimp only at hSw); go_simp) <;> with_reducible rfl
  try simp only [Act.put, List.setIfInBounds_toArray, List.set_cons_zero, List.set_cons_succ]
  refine wpAnyH_done (by kernel_rfl) ?_ _
  have hk1 := HB0.out.later hB1
  have c14 := hk1.cell 14
  have f14 := hk1.free 14
  have hl1 := hk1.lt
  simp only [List.getElem?_toArray, List.getElem?_cons_zero, List.getElem?_cons_succ] at c14
  clear hk1 XS KEEP hHeld
  go_upto_region 3 with fail
  refine wp_genS ?_
  intro w2 hw2
  have HF2 : Hid (Only [gS] w1 w2 ∧ SIs w2 gS gB h node c { x with way := restS now c.retry c.tries x.way } ∧ BO W.heap.size w2 ((againS now c.tries x.way).map bk) (.slice aa na ca)) := hid (by
    have ho : Only [gS] w1 w2 := by rw [hw2]; exact (Only.refl _ _).setCell (by simp) _
    refine ⟨ho, (HX.out.later hB1).store ho ⟨a1, c1, ?_, ?_⟩ rfl rfl, HBO.out.only ho (fun b hb hb2 hm => by simp at hm; omega)⟩
    · rw [hw2]
      have hk := (HB0.out.later hB1).set 14 (.slice a1 n1 c1)
      rw [← HN1.out]
      exact hk
    · rw [← HN1.out]
      refine (HQ1.out.only ho (fun b hb => ⟨hb.2, by have := hb.1; simp; omega⟩)).imp (fun b hb => ⟨Nat.lt_of_lt_of_le hb.2 ho.size, fun hm => ?_⟩)
      have hb1 := hb.1
      rcases List.mem_cons.1 hm with e | hm
      · omega
      rcases List.mem_append.1 hm with hm | hm
      · have := HX.out.bb.lt b hm; omega
      · have := HX.out.tl b hm; omega)
  have HCW : Hid (∀ w', Only [gS] w2 w' → (lg = [] ∨ ∃ b off, ag = some ⟨b, off, none⟩ ∧ b < w'.heap.size ∧ ∀ i (hi : i < lg.length) j u, (benc lg[i])[j]? = some u → w'.cell? ⟨b, off + i * 3 + j, none⟩ = some u)) := hid (fun w' ho => by
    have ho2 : Only [gS] w1 w' := HF2.out.1.trans ho
    exact HCG.out.imp id (fun ⟨b, off, e1, e2, e3⟩ => ⟨b, off, e1, Nat.lt_of_lt_of_le e2.2 ho2.size, fun i hi j u hu => (ho2.cell (p := ⟨b, off + i * 3 + j, none⟩) e2.2 (by have := e2.1; simp; omega)).trans (e3 i hi j u hu)⟩))
  clear hw2 c14 f14 hl1 HCG HQ1 HBO HB0
  obtain ⟨ng, hng⟩ : ∃ n, n = lg.length := ⟨_, rfl⟩
  have HNG := hid hng
  rw [← hng] at hglen ⊢
  clear hng
  go_wp2_with fail
  go_loopw [36] (fun s36 wr => ∃ k : Nat, k ≤ ng ∧ s36 = .int .i64 k ∧ Hid (Only [gS] w2 wr ∧ SIs wr gS gB h node c { x with way := restS now c.retry c.tries x.way, given := x.given + total (lg.take k) })) (fun i _ => ng - (intOf i).toNat)
  case atStart => exact ⟨0, Nat.zero_le _, rfl, hid ⟨Only.refl _ _, HF2.out.2.1⟩⟩
  case round =>
    obtain ⟨k, hk, rfl, HR⟩ := hrel
    by_cases hlt : k < ng
    · have hltg : k < lg.length := by rw [← HNG.out]; exact hlt
      obtain ⟨b, off, rfl, hbl, hc⟩ := (HCW.out wr HR.out.1).resolve_left (by intro e; rw [e] at hltg; simp at hltg)
      obtain ⟨c0, c1', c2⟩ := bat_cells (fun j u hu => hc k hltg j u hu)
      have HT : Hid (x.given + total (lg.take k) + lg[k].sp.length = x.given + total (lg.take (k + 1)) ∧ x.given + total (lg.take k) ≤ 200000 ∧ lg[k].sp.length ≤ 200) := hid (by
        have e1 : total (lg.take (k + 1)) = total (lg.take k) + lg[k].sp.length := by rw [List.take_succ_eq_append_getElem hltg, Sq.total_snoc]
        have e2 := total_cut hltg
        have e4 := total_bk HLG.out
        omega)
      clear hc
      generalize lg[k] = y at c0 c1' c2 HT
      obtain ⟨n, hn⟩ : ∃ n, y.sp.length = n := ⟨_, rfl⟩
      rw [hn] at c2 HT
      clear hn
      go_upto_region 6 with fail
      refine wp_genS ?_
      intro w3 hw3
      have hb3 : Below wr.heap.size wr w3 := by rw [hw3]; go_grown
      have hk3 : Blk w3 wr.heap.size #[.int .i64 y.node, .int .i64 y.seq, .slice y.pa n y.pcap] 45 := by rw [hw3]; exact Blk.new _ _ _
      have HB3 := hid hb3
      have HK3 := hid hk3
      have i2 : w3.cell? ⟨wr.heap.size, 2, none⟩ = some (.slice y.pa n y.pcap) := hk3.cell 2
      clear hw3 hb3 hk3 c0 c1' c2
      have XA : Hid (∀ w', Below w3.heap.size w3 w' → Calls Try.prog 33 #[.pointer (some ⟨gS, 18, none⟩), .int .i64 n] w' fun e w'' => ∃ z, e = .returned (.int .i64 z) ∧ w''.cell? ⟨wr.heap.size, 2, none⟩ = some (.slice y.pa n y.pcap) ∧ Hid (Only [gS] w2 w'' ∧ SIs w'' gS gB h node c { x with way := restS now c.retry c.tries x.way, given := x.given + total (lg.take (k + 1)) })) := hid (fun w' hb => by
        have hs := HR.out.2.later (HB3.out.trans (hb.mono HB3.out.size))
        obtain ⟨ax, cx, hbx, hqx⟩ := hs.bs
        obtain ⟨t1, t2, t3⟩ := HT.out
        have hwr := HR.out.2.gSlt
        refine (add_any gS 18 ((x.given + total (lg.take k) : Nat) : Int) n ((x.given + total (lg.take (k + 1)) : Nat) : Int) w' (by omega) (by omega) (hbx.cell 18) (hbx.free 18)).mono ?_
        rintro e w'' ⟨rfl, rfl⟩
        have ho : Only [gS] w' (w'.setCell ⟨gS, 18, none⟩ (.int .i64 ((x.given + total (lg.take (k + 1)) : Nat) : Int))) := (Only.refl _ _).setCell (by simp) _
        refine ⟨_, rfl, ?_, hid ⟨(HR.out.1.trans (Only.of_below (HB3.out.trans (hb.mono HB3.out.size)))).trans ho, hs.store ho ⟨ax, cx, hbx.set 18 _, qrOnly hqx ho (by simp)⟩ rfl rfl⟩⟩
        exact ((HK3.out.later hb).only ho (by simp; omega)).cell 2)
      have KEEP : Hid (∀ w', Below w3.heap.size w3 w' → w'.cell? ⟨wr.heap.size, 2, none⟩ = some (.slice y.pa n y.pcap)) := hid (fun w' hb => (HK3.out.later hb).cell 2)
      go_wp2_with fail
      refine wp_region_held_drew (S := (fun w' => w'.cell? ⟨wr.heap.size, 2, none⟩ = some (.slice y.pa n y.pcap))) (by kernel_rfl) (by (first | assumption | (refine KEEP.out _ ?_; (repeat' (first | assumption | (with_reducible exact Below.refl _ _) | (with_reducible refine Below.drew ?_) | (with_reducible refine Below.alloc ?_ (by first | exact Nat.le_refl _ | (exact Below.size (by assumption)) | (simp; done) | (simp; omega)) _)))))) (fun hHeld => ?_)
      refine wpAnyH_take (i := 0) (oi := ⟨_, _, _, _, _, _⟩) (v := ?_) rfl (by kernel_rfl) (by kernel_rfl) (by kernel_rfl) (fun _ _ _ h => h) (Or.inl ⟨by rfl, ?_⟩) hHeld ?_
      rotate_left
      · (intro w hSw; (try dsimp only at hSw); go_simp) <;> with_reducible rfl
      try simp only [Act.put, List.setIfInBounds_toArray, List.set_cons_zero, List.set_cons_succ]
      refine wpAnyH_take (i := 1) (oi := ⟨_, _, _, _, _, _⟩) (v := ?_) rfl (by kernel_rfl) (by kernel_rfl) (by kernel_rfl) (fun _ _ _ h => h) (Or.inl ⟨by rfl, ?_⟩) hHeld ?_
      rotate_left
      · (intro w hSw; (try dsimp only at hSw); go_simp) <;> with_reducible rfl
      try simp only [Act.put, List.setIfInBounds_toArray, List.set_cons_zero, List.set_cons_succ]
      refine wpAnyH_take (i := 2) (oi := ⟨_, _, _, _, _, _⟩) (v := ?_) rfl (by kernel_rfl) (by kernel_rfl) (by kernel_rfl) (fun _ _ _ h => h) (Or.inl ⟨by rfl, ?_⟩) hHeld ?_
      rotate_left
      · (intro w hSw; (try dsimp only at hSw); go_simp) <;> with_reducible rfl
      try simp only [Act.put, List.setIfInBounds_toArray, List.set_cons_zero, List.set_cons_succ]
      refine wpAnyH_take (i := 3) (oi := ⟨_, _, _, _, _, _⟩) (v := ?_) rfl (by kernel_rfl) (by kernel_rfl) (by kernel_rfl) (fun _ _ _ h => h) (Or.inl ⟨by rfl, ?_⟩) hHeld ?_
      rotate_left
      · (intro w hSw; (try dsimp only at hSw); go_simp) <;> with_reducible rfl
      try simp only [Act.put, List.setIfInBounds_toArray, List.set_cons_zero, List.set_cons_succ]
      refine wpAnyH_take (i := 4) (oi := ⟨_, _, _, _, _, _⟩) (v := ?_) rfl (by kernel_rfl) (by kernel_rfl) (by kernel_rfl) (fun _ _ _ h => h) (Or.inl ⟨by rfl, ?_⟩) hHeld ?_
      rotate_left
      · (intro w hSw; (try dsimp only at hSw); go_simp) <;> with_reducible rfl
      try simp only [Act.put, List.setIfInBounds_toArray, List.set_cons_zero, List.set_cons_succ]
      refine wpAnyH_take (i := 5) (oi := ⟨_, _, _, _, _, _⟩) (v := ?_) rfl (by kernel_rfl) (by kernel_rfl) (by kernel_rfl) (fun _ _ _ h => h) (Or.inl ⟨by rfl, ?_⟩) hHeld ?_
      rotate_left
      · (intro w hSw; (try dsimp only at hSw); go_simp) <;> with_reducible rfl
      try simp only [Act.put, List.setIfInBounds_toArray, List.set_cons_zero, List.set_cons_succ]
      refine wpAnyH_ready (rs := [6]) (by kernel_rfl) (by simp) ?_
      refine AllReadyH.cons (o := ⟨_, _, _, _, _, _⟩) rfl (fun K hK => ?_) AllReadyH.nil
      clear hHeld
      go_simp
      go_at_call 33
      refine (XA.out _ (by first | assumption | exact Below.refl _ _ | exact (Below.refl _ _).drew)).mono ?_
      rintro e w4 ⟨z, rfl, i4, HZ⟩
      refine hK.out _ _ (by (first | assumption | (refine KEEP.out _ ?_; (repeat' (first | assumption | (with_reducible exact Below.refl _ _) | (with_reducible refine Below.drew ?_) | (with_reducible refine Below.alloc ?_ (by first | exact Nat.le_refl _ | (exact Below.size (by assumption)) | (simp; done) | (simp; omega)) _)))))) (fun hHeld => ?_)
      clear hK K
      try simp only [Act.put, List.setIfInBounds_toArray, List.set_cons_zero, List.set_cons_succ]
      refine wpAnyH_done (by kernel_rfl) ?_ _
      go_wp2_with fail
      go_roundw
      case rel => exact ⟨k + 1, by omega, by go_num, HZ⟩
      case measure => simp [intOf]; omega
    · obtain rfl : k = ng := by omega
      have HR2 : Hid (Only [gS] w2 wr ∧ SIs wr gS gB h node c (restX c x now)) := hid (by
        have h1 := HR.out
        rw [HNG.out, List.take_length, total_bk HLG.out] at h1
        exact h1)
      obtain ⟨r, hr⟩ : ∃ r, readyB c (restX c x now) now = r := ⟨_, rfl⟩
      have XR := hid (ready_any gS gB h node c (restX c x now) now wr HR2.out.2 HN.out HBD.out.last)
      rw [hr] at XR
      have HOW : Hid (Only (gS :: own gB h) W wr) := hid ((Only.of_below hB1).trans ((HF2.out.1.trans HR2.out.1).mono (by simp)))
      have HBA : Hid (BO W.heap.size wr ((againS now c.tries x.way).map bk) (.slice aa na ca)) := hid (HF2.out.2.2.only HR2.out.1 (fun b hb hb2 hm => by simp at hm; omega))
      have HR0 := hid hr
      clear HR hr HCW HF2 hglen HNG
      cases r
      · go_wp2_with fail
        refine XR.out.mono ?_
        rintro e w5 ⟨rfl, hb5⟩
        have HB5 := hid hb5
        clear hb5
        go_wp2_with fail
        go_ret
        have he : stepX node c x now = (restX c x now, (againS now c.tries x.way).map bk) := by unfold stepX; rw [HR0.out]; rfl
        refine ⟨_, rfl, HOW.out.trans (Only.of_below HB5.out), hid ?_⟩
        rw [he]
        refine ⟨HR2.out.2.later HB5.out, ?_⟩
        exact (HBA.out.only (S := []) (Only.of_below HB5.out) (by simp)).br
      · have XF : Hid (∀ w', Below wr.heap.size wr w' → Calls Try.prog 50 #[.pointer (some ⟨gS, 0, none⟩), .int .i64 now] w' (FreshQ w' gS gB h node c (restX c x now) now)) := hid (fun w' hb => by
          have hs := HR2.out.2.later hb
          refine fresh_any gS gB h node c (restX c x now) now w' hs (by have := HBD.out.next; show x.next ≤ _; omega) ?_ ?_ ?_
          · intro k hk
            obtain ⟨k0, h0, e0, _⟩ := rest_mem hk
            rw [e0]
            have := (HBD.out.sp k0 h0).1
            omega
          · have := rest_len now c.retry c.tries x.way
            have := HBD.out.way
            show (restS now c.retry c.tries x.way).length ≤ _
            omega
          · unfold takenX
            rw [List.length_take]
            obtain ⟨_, _, _, _, h4, h5, _⟩ := hs.bb
            have h6 : x.wait.length ≤ roomR c.buf := h4
            show min _ x.wait.length ≤ _
            omega)
        obtain ⟨kA, hkA, hownA, hatA⟩ := HBA.out
        have HKA := hid hkA
        have HOA := hid hownA
        have HAA := hid hatA
        obtain ⟨nk, hnk⟩ : ∃ n, n = kA.length := ⟨_, rfl⟩
        have hk8 : nk ≤ 8 := by
          have e1 := congrArg List.length hkA
          simp only [List.length_map] at e1
          have e2 : (againS now c.tries x.way).length ≤ x.way.length := List.length_filter_le _ _
          have := HBD.out.way
          omega
        have HNK := hid hnk
        rw [hnk] at hk8
        clear hkA hownA hatA hnk
        go_wp2_with fail
        refine XR.out.mono ?_
        rintro e w5 ⟨rfl, hb5⟩
        have HB5 := hid hb5
        clear hb5
        go_wp2_with fail
        refine (XF.out w5 HB5.out).mono ?_
        rintro e w6 ⟨af, cf, rfl, ho6, hf6⟩
        have HO6 := hid ho6
        have HOW6 : Hid (w6.ownsRow W.heap.size 45 3 (.slice aa na ca) kA.length (kA.flatMap benc)) := hid (owns_keep (owns_keep HOA.out (Only.of_below (S := []) HB5.out) (fun b hb hm => by simp at hm)) ho6 (fun b hb hm => by
          have h1 := (owns_bd HOA.out b hb).1
          rcases List.mem_cons.1 hm with e | hm
          · omega
          · have := HX.out.bb.lt b hm; omega))
        have hbase : W.heap.size ≤ w6.heap.size := by have := HOW.out.size; have := HB5.out.size; have := ho6.size; omega
        have h63 : kA.length + 1 ≤ maxLen := by unfold maxLen; omega
        have hby : (kA.length + 1) * 40 ≤ 140737488355328 := by omega
        clear ho6
        go_wp2_with (at_builtin; refine wpList_push_at (w0 := w6) (T := 45) (news := [.int .i64 node, .int .i64 x.next, .slice af (takenX c (restX c x now)).length cf]) elemB rfl _ _ rfl W.heap.size (.slice aa na ca) kA.length _ rfl HOW6.out rfl rfl rfl (by simp [Value.oneCell']) h63 hby hbase ?_; intro v9 w9 hown9 ho9 hm9; obtain ⟨a9, c9, rfl⟩ := owns_form hown9; have HN9 := hid hown9; have HO9 := hid ho9; clear hown9 ho9 hm9)
        go_ret
        obtain ⟨f1, f2, f3⟩ := step_push_fin HX.out (HOW.out.trans (Only.of_below HB5.out)) HKA.out (owns_keep HOA.out (Only.of_below (S := []) HB5.out) (fun b hb hm => by simp at hm)) (fun k hk => ((HAA.out k hk).only (S := []) (Only.of_below HB5.out) (fun b hb => ⟨hb.2.1, by simp⟩)).imp (fun b hb => ⟨hb.1, Nat.lt_of_lt_of_le hb.2.1 HB5.out.size, hb.2.2⟩)) HO6.out hf6.out HO9.out HN9.out
        have he : stepX node c x now = (freshX node c (restX c x now) now, (againS now c.tries x.way).map bk ++ [(node, (x.next : Int), takenX c x)]) := by unfold stepX; rw [HR0.out]; rfl
        refine ⟨_, rfl, f1, hid ?_⟩
        rw [he]
        exact ⟨f2, f3⟩
end C27
end Go.Proofs.Ytcohcanakicmpaa
namespace Go.Proofs.Ytcohcanakicmpaa
open Go.RowKit Go.Peri
namespace C04
theorem elemS : Elem Try.prog 41 9 1 16 := Elem.mk' (z := .string ByteArray.empty) Try.underlying41 (by kernel_rfl) rfl (by decide)

end C04
end Go.Proofs.Ytcohcanakicmpaa
namespace Go.Peri
namespace Hd
def fewB (h : Hd) : Bool := decide (h.name.size + h.value.size ≤ 400)
def few (l : List Hd) : Bool := decide (l.length ≤ 60) && l.all fewB
theorem few_len {l : List Hd} (h : few l = true) : l.length ≤ 60 := by
  unfold few at h
  rw [Bool.and_eq_true] at h
  exact of_decide_eq_true h.1
theorem few_mem {l : List Hd} (h : few l = true) : ∀ x ∈ l, x.name.size + x.value.size ≤ 400 := by
  unfold few at h
  rw [Bool.and_eq_true, List.all_eq_true] at h
  exact fun x hx => of_decide_eq_true (h.2 x hx)
end Hd
end Go.Peri
namespace Go.Proofs.Ytcohcanakicmpaa
open Go.RowKit Go.Peri
namespace C04
set_option maxRecDepth 100000 in
theorem texts_any {p q : Nat → Prop} (u v : Value) (l m : List ByteArray) (r : Bool) (W : World) (h : RowsOf p sEnc 1 W u l) (hp : ∀ b, p b → b < W.heap.size) (h2 : RowsOf q sEnc 1 W v m) (hq : ∀ b, q b → b < W.heap.size) (hl : l.length ≤ 1000000000000) (hm : m.length ≤ 1000000000000)
    (hr : decide (l = m) = r) :
    Calls Try.prog 19 #[u, v] W fun e w' => e = .returned (.bool r) ∧ Below W.heap.size W w' := by
  obtain ⟨a, cap, rfl, hlc, hcm, _, hcell⟩ := h
  obtain ⟨a2, cap2, rfl, hlc2, hcm2, _, hcell2⟩ := h2
  have HP := hid hp
  have HQ := hid hq
  have HC := hid hcell
  have HC2 := hid hcell2
  have HR := hid hr
  clear hp hq hcell hcell2 hr
  by_cases hlen : l.length = m.length
  · have HLEN := hid hlen
    have hle2 : ((l.length : Int) == (m.length : Int)) = true := by simp [hlen]
    have hle3 : ((m.length : Int) == (m.length : Int)) = true := by simp
    generalize hn : l.length = n at hlen hlc hl HLEN hle2
    have HN := hid hn
    clear hn
    subst hlen
    go_enter Try.func19, Try.ntmps19
    go_wp2_with fail
    go_loopw [5] (fun i wr => ∃ k : Nat, k ≤ m.length ∧ i = .int .i64 k ∧ Below W.heap.size W wr ∧ ∀ j (_ : j < k) (h1 : j < l.length) (h2 : j < m.length), l[j] = m[j]) (fun i _ => m.length - (intOf i).toNat)
    case atStart => exact ⟨0, Nat.zero_le _, rfl, Below.refl _ _, fun j hj => absurd hj (Nat.not_lt_zero _)⟩
    case round =>
      obtain ⟨k, hk, rfl, hb, hno⟩ := hrel
      have HB := hid hb
      have HE := hid hno
      clear hb hno
      by_cases hlt : k < m.length
      · have hlt1 : k < l.length := by rw [HN.out]; exact hlt
        obtain ⟨b, off, rfl, hpb, hc⟩ := HC.out.resolve_left (by intro e; rw [e] at hlt1; simp at hlt1)
        obtain ⟨b2, off2, rfl, hpb2, hc2⟩ := HC2.out.resolve_left (by intro e; rw [e] at hlt; simp at hlt)
        have hbl : b < wr.heap.size := Nat.lt_of_lt_of_le (HP.out b hpb) HB.out.size
        have hbl2 : b2 < wr.heap.size := Nat.lt_of_lt_of_le (HQ.out b2 hpb2) HB.out.size
        have c0 : wr.cell? ⟨b, off + k, none⟩ = some (.string l[k]) := (HB.out.cell (p := ⟨b, off + k, none⟩) (HP.out b hpb)).trans (by have := hc k hlt1 0 _ rfl; simpa using this)
        have d0 : wr.cell? ⟨b2, off2 + k, none⟩ = some (.string m[k]) := (HB.out.cell (p := ⟨b2, off2 + k, none⟩) (HQ.out b2 hpb2)).trans (by have := hc2 k hlt 0 _ rfl; simpa using this)
        have HNext : Hid (l[k] = m[k] → ∀ j (_ : j < k + 1) (h1 : j < l.length) (h2 : j < m.length), l[j] = m[j]) := by
          intro he j hj h1 h2
          by_cases e : j = k
          · subst e; exact he
          · exact HE.out j (by omega) h1 h2
        have HHit : Hid (l[k] ≠ m[k] → l ≠ m) := fun hh e => hh (by subst e; rfl)
        clear hc hc2
        generalize l[k] = x at c0 HNext HHit
        generalize m[k] = y at d0 HNext HHit
        have hk2 : (k : Int) < (m.length : Int) := by omega
        obtain ⟨bq, hbq⟩ : ∃ bq, decide (x = y) = bq := ⟨_, rfl⟩
        obtain ⟨s1, s2⟩ := strEq_of hbq
        have HX := hid hbq
        clear hbq
        cases bq
        · go_wp2_with fail
          go_quiet (fail)
          go_wp2_with fail
          go_ret
          exact ⟨by rw [← HR.out, decide_eq_false (HHit.out (of_decide_eq_false HX.out))]; rfl, HB.out.trans ⟨rfl, rfl, rfl, Nat.le_refl _, fun _ _ => rfl⟩⟩
        · go_wp2_with fail
          go_quiet (fail)
          go_wp2_with fail
          go_roundw
          case rel => exact ⟨k + 1, by omega, by go_num, HB.out.trans ⟨rfl, rfl, rfl, Nat.le_refl _, fun _ _ => rfl⟩, HNext.out (of_decide_eq_true HX.out)⟩
          case measure => simp [intOf]; omega
      · obtain rfl : k = m.length := by omega
        go_wp2_with fail
        go_ret
        have : l = m := List.ext_getElem HN.out (fun j h1 h2 => HE.out j h2 h1 h2)
        exact ⟨by rw [← HR.out, decide_eq_true this]; rfl, HB.out⟩
  · have HL : Hid (l ≠ m) := fun e => hlen (by rw [e])
    have hle2 : ((l.length : Int) == (m.length : Int)) = false := by rw [beq_eq_false_iff_ne]; omega
    clear hlen
    go_enter Try.func19, Try.ntmps19
    go_wp2_with fail
    go_ret
    exact ⟨by rw [← HR.out, decide_eq_false HL.out]; rfl, Below.refl _ _⟩

end C04
end Go.Proofs.Ytcohcanakicmpaa
namespace Go.Proofs.Ytcohcanakicmpaa
open Go.RowKit Go.Peri
open Sq (rest ixQ atQ total bk benc)
open Gen (owns_le owns_below)
open C26 (QR BR BO Fresh clk)
open C25 (BufIs roomR own Moved)
open C10 (Okb bW)
open C04 (elemS)
namespace C27
/-- A batch's bytes. -/
def outB (b : Int × Int × List Sp) : ByteArray := bW b.1.toNat b.2.1.toNat b.2.2
def OkB (b : Int × Int × List Sp) : Prop := 0 ≤ b.1 ∧ 0 ≤ b.2.1 ∧ Okb b.1.toNat b.2.1.toNat b.2.2
def TickQ (W : World) (gX gS gB : Nat) (h : Option Nat) (node : Int) (c : Lim) (x : Xs) (raw : Int) (e : Ending) (w' : World) : Prop :=
  ∃ v, e = .returned v ∧ Only (gS :: own gB h) W w' ∧ Hid (XIs w' gX gS gB h node c (stepX node c x (clk raw)).1 ∧ RowsOf (Fresh W.heap.size w') sEnc 1 w' v ((stepX node c x (clk raw)).2.map outB))
def TickR (W : World) (gX gS gB : Nat) (h : Option Nat) (node : Int) (c : Lim) (st : Xs × List (Int × Int × List Sp)) (e : Ending) (w' : World) : Prop :=
  ∃ v, e = .returned v ∧ Only (gS :: own gB h) W w' ∧ Hid (XIs w' gX gS gB h node c st.1 ∧ RowsOf (Fresh W.heap.size w') sEnc 1 w' v (st.2.map outB))
set_option maxRecDepth 100000 in
set_option maxHeartbeats 8000000 in
theorem tick_any (gX gS gB : Nat) (h : Option Nat) (node : Int) (c : Lim) (x : Xs) (raw : Int) (W : World) (hx : XIs W gX gS gB h node c x) (bd : Bd x) (hok : ∀ b ∈ (stepX node c x (clk raw)).2, OkB b) (hmany : (stepX node c x (clk raw)).2.length ≤ 100) :
    Calls Try.prog 10 #[.pointer (some ⟨gX, 0, none⟩), .int .i64 raw] W (TickQ W gX gS gB h node c x raw) := by
  have HX := hid hx
  have XS : Hid (Calls Try.prog 27 #[.pointer (some ⟨gS, 0, none⟩), .int .i64 (max 0 (min raw 1099511627776))] W (StepQ W gS gB h node c x (clk raw))) := hid (step_any gS gB h node c x (clk raw) W hx.s bd (by unfold clk; omega))
  have x0 := hx.bx.cell 0
  have hgl := hx.bx.lt
  simp only [List.getElem?_toArray, List.getElem?_cons_zero] at x0
  have HQT : Hid (∀ e w', TickR W gX gS gB h node c (stepX node c x (clk raw)) e w' → TickQ W gX gS gB h node c x raw e w') := hid (fun e w' h => h)
  refine Calls.mono ?_ HQT.out
  unfold StepQ at XS
  generalize stepX node c x (clk raw) = st at XS hok hmany
  obtain ⟨x1, bl⟩ := st
  have HOK := hid hok
  obtain ⟨nb, hnb⟩ : ∃ n, n = bl.length := ⟨_, rfl⟩
  have HNB := hid hnb
  have hm100 : nb ≤ 100 := by rw [hnb]; exact hmany
  clear hok hmany bd hx hnb HQT
  go_enter Try.func10, Try.ntmps10
  go_wp2_with fail
  refine XS.out.mono ?_
  rintro e w1 ⟨v, rfl, ho1, hq1⟩
  obtain ⟨lb, hlb, ⟨ab, cb, rfl, -, -, -, hcb⟩, hsb⟩ := hq1.out.2
  have hlen : lb.length = nb := by
    have e1 := congrArg List.length hlb
    simp only [List.length_map] at e1
    rw [e1, HNB.out]
  rw [hlen]
  have HX1 : Hid (XIs w1 gX gS gB h node c x1) := hid (HX.out.of ho1 (.inl rfl) hq1.out.1)
  have HO1 := hid ho1
  have HLB := hid hlb
  have HLEN := hid hlen
  have HCB := hid hcb
  have HSB := hid hsb
  clear ho1 hq1 hlb hcb hsb hlen XS x0 hgl
  go_wp2_with fail
  go_loopw [5, 21] (fun s5 s21 wr => ∃ (k : Nat) (ao : Option Addr) (co : Nat), k ≤ nb ∧ s21 = .int .i64 k ∧ s5 = .slice ao k co ∧ Hid (Below w1.heap.size w1 wr ∧ wr.ownsRow w1.heap.size 9 1 (.slice ao k co) k (((bl.take k).map outB).flatMap sEnc))) (fun _ i _ => nb - (intOf i).toNat)
  case atStart => exact ⟨0, none, 0, Nat.zero_le _, rfl, rfl, hid ⟨Below.refl _ _, World.ownsRow_nil _ _ _ _⟩⟩
  case round =>
    obtain ⟨k, ao, co, hk, rfl, rfl, HR⟩ := hrel
    by_cases hlt : k < nb
    · have hltb : k < lb.length := by rw [HLEN.out]; exact hlt
      have hltl : k < bl.length := by rw [← HNB.out]; exact hlt
      obtain ⟨b, off, rfl, hpb, hc⟩ := HCB.out.resolve_left (by intro e; rw [e] at hltb; simp at hltb)
      obtain ⟨c0, c1, c2⟩ := bat_cells (fun j u hu => (HR.out.1.cell (p := ⟨b, off + k * 3 + j, none⟩) hpb.2).trans (hc k hltb j u hu))
      have hek : bk lb[k] = bl[k] := by
        have e1 : (lb.map bk)[k]'(by simpa using hltb) = bl[k] := by
          have := HLB.out
          simp only [this]
        simpa using e1
      have HPK : Hid (lb[k].At (Fresh W.heap.size w1) w1) := hid (HSB.out _ (List.getElem_mem hltb))
      have HOB : Hid (OkB (bk lb[k])) := hid (by rw [hek]; exact HOK.out _ (List.getElem_mem hltl))
      have HTK : Hid (((bl.take (k + 1)).map outB).flatMap sEnc = ((bl.take k).map outB).flatMap sEnc ++ [.string (outB (bk lb[k]))]) := hid (by
        rw [hek, List.take_succ_eq_append_getElem hltl, List.map_append, List.flatMap_append]; rfl)
      clear hc hek
      generalize lb[k] = y at c0 c1 c2 HPK HOB HTK
      obtain ⟨h0, h1, h2⟩ := HOB.out
      obtain ⟨nn, hnn⟩ : ∃ n : Nat, y.node = n := ⟨y.node.toNat, by have : 0 ≤ y.node := h0; omega⟩
      obtain ⟨ss, hss⟩ : ∃ n : Nat, y.seq = n := ⟨y.seq.toNat, by have : 0 ≤ y.seq := h1; omega⟩
      have HOK1 : Hid (Okb nn ss y.sp ∧ outB (bk y) = bW nn ss y.sp) := hid (by
        have e1 : nn = y.node.toNat := by omega
        have e2 : ss = y.seq.toNat := by omega
        rw [e1, e2]
        exact ⟨h2, rfl⟩)
      rw [hnn] at c0
      rw [hss] at c1
      clear h0 h1 h2 hnn hss HOB
      have hs1 := HR.out.1.size
      have hb9 : b < wr.heap.size := Nat.lt_of_lt_of_le hpb.2 hs1
      go_upto_region 7 with fail
      refine wp_genS ?_
      intro w3 hw3
      have hb3 : Below wr.heap.size wr w3 := by rw [hw3]; go_grown
      have hk3 : Blk w3 wr.heap.size #[.int .i64 nn, .int .i64 ss, .slice y.pa y.sp.length y.pcap] 45 := by rw [hw3]; exact Blk.new _ _ _
      obtain ⟨i0, i1, i2⟩ := C10.blk3o hk3
      have HB3 := hid (HR.out.1.trans (hb3.mono hs1))
      have HO3 := hid (owns_below HR.out.2 hb3)
      have XW := hid (C10.bwrite_any (p := Fresh W.heap.size w1) nn ss y.pa y.pcap y.sp w3 (HPK.out.below HB3.out (fun b hb => hb.2)) (fun b hb => Nat.lt_of_lt_of_le hb.2 HB3.out.size) HOK1.out.1)
      clear hw3 hb3 hk3 c0 c1 c2
      go_wp2_with fail
      refine XW.out.mono ?_
      rintro e w4 ⟨rfl, hb4⟩
      have HB4 := hid (HB3.out.trans (hb4.mono HB3.out.size))
      have HO4 := hid (owns_below HO3.out hb4)
      have hbase : w1.heap.size ≤ w4.heap.size := HB4.out.size
      have h63 : k + 1 ≤ maxLen := by unfold maxLen; omega
      have hby : (k + 1) * 16 ≤ 140737488355328 := by omega
      clear hb4 XW
      go_wp2_with (at_builtin; refine wpList_push (w0 := w4) (T := 9) (news := [.string (bW nn ss y.sp)]) elemS rfl _ _ rfl w1.heap.size (.slice ao k co) k _ rfl HO4.out rfl rfl rfl (by simp [Value.oneCell']) h63 hby hbase ?_; intro v9 w9 hown9 hb9'; obtain ⟨a9, c9, rfl⟩ := owns_form hown9; have HB9 := hid hb9'; have HO9 := hid hown9; clear hb9' hown9)
      go_roundw
      case rel => exact ⟨k + 1, a9, c9, by omega, by go_num, rfl, hid ⟨HB4.out.trans (HB9.out.mono (Nat.le_refl _)), by rw [HTK.out, HOK1.out.2]; exact HO9.out⟩⟩
      case measure => simp [intOf]; omega
    · obtain rfl : k = nb := by omega
      go_wp2_with fail
      go_ret
      have hb := HR.out.1
      have hz := HO1.out.size
      refine ⟨_, rfl, HO1.out.trans (Only.of_below hb), hid ⟨HX1.out.later hb, ?_⟩⟩
      have h0 := HR.out.2
      rw [HNB.out, List.take_length] at h0
      have hl : (bl.map outB).length = bl.length := by simp
      have hr : RowsOf (fun b => w1.heap.size ≤ b ∧ b < wr.heap.size) sEnc 1 wr (.slice ao bl.length co) (bl.map outB) := RowsOf.of_owns (enc := sEnc) (fun _ => rfl) (by rw [hl]; exact h0)
      rw [HNB.out]
      exact hr.imp (fun b hb => ⟨by omega, hb.2⟩)
end C27
end Go.Proofs.Ytcohcanakicmpaa
namespace Go.Proofs.Ytcohcanakicmpaa
open Go.RowKit Go.Peri
open Sq (rest ixQ atQ total bk benc)
open C26 (QR BR BO Fresh clk AckR)
open C25 (BufIs roomR own Moved)
namespace C27
def ackN (x : Xs) (q : Int) : Nat := total x.way - total (rest x.way q)
def ackX (x : Xs) (q : Int) : Xs := { x with way := rest x.way q, acked := x.acked + ackN x q }
theorem total_rest (l : List Sq) (q : Int) : total (rest l q) ≤ total l := by
  induction l with
  | nil => simp [rest, total]
  | cons y l ih =>
    unfold rest at ih ⊢
    rw [List.filter_cons]
    split
    · rw [total_cons, total_cons]; omega
    · rw [total_cons]; omega
theorem way128 {x : Xs} (bd : Bd x) : total x.way ≤ 128 := by
  have h2 := total16 (l := x.way) (fun y hy => (bd.sp y hy).1)
  have := bd.way
  omega
def AckXQ (W : World) (gX gS gB : Nat) (h : Option Nat) (node : Int) (c : Lim) (x : Xs) (q : Int) (e : Ending) (w' : World) : Prop :=
  e = .returned (.int .i64 (ackN x q : Nat)) ∧ Only (gS :: own gB h) W w' ∧ Hid (XIs w' gX gS gB h node c (ackX x q))
set_option maxRecDepth 100000 in
set_option maxHeartbeats 8000000 in
theorem ack_any (gX gS gB : Nat) (h : Option Nat) (node : Int) (c : Lim) (x : Xs) (q : Int) (W : World) (hx : XIs W gX gS gB h node c x) (bd : Bd x) :
    Calls Try.prog 12 #[.pointer (some ⟨gX, 0, none⟩), .int .i64 q] W (AckXQ W gX gS gB h node c x q) := by
  have HX := hid hx
  have HBD := hid bd
  obtain ⟨a0, cap0, hb0, hq0⟩ := hx.s.bs
  have x0 := hx.bx.cell 0
  have hgl := hx.bx.lt
  have hsl := hb0.lt
  have s14 := hb0.cell 14
  simp only [List.getElem?_toArray, List.getElem?_cons_zero, List.getElem?_cons_succ] at x0 s14
  have HB0 := hid hb0
  obtain ⟨n, hn⟩ : ∃ n, ackN x q = n := ⟨_, rfl⟩
  have HXA : Hid (Calls Try.prog 32 #[.slice a0 x.way.length cap0, .int .i64 q] W fun e w' => ∃ n1 a1 c1, e = .returned (.tuple #[.slice a1 n1 c1, .int .i64 n]) ∧ Below W.heap.size W w' ∧ Hid (n1 = (rest x.way q).length ∧ QR (Fresh W.heap.size w') w' (rest x.way q) (.slice a1 n1 c1))) := hid (by
    refine (C26.ackQ_any (.slice a0 x.way.length cap0) x.way q W hq0 (fun b hb => hb.1) (by have := bd.way; omega) (fun k hk => by have := (bd.sp k hk).1; omega)).mono ?_
    rintro e w' ⟨v, rfl, hb, v1, rfl, hq⟩
    obtain ⟨a1, c1, rfl⟩ := hq.form
    have := total_rest x.way q
    refine ⟨_, a1, c1, ?_, hb, hid ⟨rfl, hq⟩⟩
    rw [← hn]
    unfold ackN
    rw [Int.ofNat_sub this])
  have hn2 : n ≤ 128 := by
    have := way128 bd
    rw [← hn]; unfold ackN; omega
  unfold AckXQ
  rw [hn]
  have HN := hid hn
  have hgg : gX ≠ gS := fun e => hx.ne (by simp [e])
  clear hx bd hb0 hq0 hn
  go_enter Try.func12, Try.ntmps12
  go_wp2_with fail
  refine HXA.out.mono ?_
  rintro e w1 ⟨n1, a1, c1, rfl, hb1, hq1⟩
  have hk1 := HB0.out.later hb1
  have x1 := (hb1.cell (p := ⟨gX, 0, none⟩) hgl).trans x0
  have s14' := hk1.cell 14
  have f14' := hk1.free 14
  have hl1 := hk1.lt
  simp only [List.getElem?_toArray, List.getElem?_cons_zero, List.getElem?_cons_succ] at s14'
  have HB1 := hid hb1
  have HQ1 := hid hq1.out
  clear hb1 hq1 hk1 x0 s14 HXA
  go_upto_region 5 with fail
  refine wp_genS ?_
  intro w2 hw2
  have hX1 := HX.out.later HB1.out
  have HF2 : Hid (XIs w2 gX gS gB h node c { x with way := rest x.way q } ∧ Only [gS] w1 w2) := hid (by
    have ho : Only [gS] w1 w2 := by rw [hw2]; exact (Only.refl _ _).setCell (by simp) _
    refine ⟨hX1.of (ho.mono (by simp)) (.inl rfl) (hX1.s.store ho ⟨a1, c1, ?_, ?_⟩ rfl rfl), ho⟩
    · rw [hw2]
      have hk := (HB0.out.later HB1.out).set 14 (.slice a1 n1 c1)
      rw [← HQ1.out.1]
      exact hk
    · rw [← HQ1.out.1]
      refine (HQ1.out.2.only ho (fun b hb => ⟨hb.2, by have := hb.1; simp; omega⟩)).imp (fun b hb => ⟨Nat.lt_of_lt_of_le hb.2 ho.size, fun hm => ?_⟩)
      have hb1 := hb.1
      rcases List.mem_cons.1 hm with e | hm
      · omega
      rcases List.mem_append.1 hm with hm | hm
      · have := HX.out.s.bb.lt b hm; omega
      · have := HX.out.s.tl b hm; omega)
  clear hw2 hX1 x1 s14' f14' hl1 HQ1 HB0
  have x2 := HF2.out.1.bx.cell 0
  have hl2 := HF2.out.1.bx.lt
  simp only [List.getElem?_toArray, List.getElem?_cons_zero] at x2
  have XA : Hid (Calls Try.prog 33 #[.pointer (some ⟨gS, 17, none⟩), .int .i64 n] w2 fun e w' => ∃ z, e = .returned (.int .i64 z) ∧ Hid (Only [gS] w2 w' ∧ XIs w' gX gS gB h node c (ackX x q))) := hid (by
    obtain ⟨ax, cx, hbx, hqx⟩ := HF2.out.1.s.bs
    have hac := HBD.out.acked
    refine (add_any gS 17 (x.acked : Int) n ((x.acked + n : Nat) : Int) w2 (by omega) (by omega) (hbx.cell 17) (hbx.free 17)).mono ?_
    rintro e w'' ⟨rfl, rfl⟩
    have ho : Only [gS] w2 (w2.setCell ⟨gS, 17, none⟩ (.int .i64 ((x.acked + n : Nat) : Int))) := (Only.refl _ _).setCell (by simp) _
    refine ⟨_, rfl, hid ⟨ho, HF2.out.1.of (ho.mono (by simp)) (.inl rfl) (HF2.out.1.s.store ho ⟨ax, cx, ?_, qrOnly hqx ho (by simp)⟩ rfl rfl)⟩⟩
    have hk := hbx.set 17 (.int .i64 ((x.acked + n : Nat) : Int))
    rw [← HN.out] at hk ⊢
    exact hk)
  go_wp2_with fail
  refine XA.out.mono ?_
  rintro e w3 ⟨z, rfl, hz⟩
  go_wp2_with fail
  go_ret
  exact ⟨rfl, (Only.of_below HB1.out).trans ((HF2.out.2.trans hz.out.1).mono (by simp)), hid hz.out.2⟩
end C27
end Go.Proofs.Ytcohcanakicmpaa
