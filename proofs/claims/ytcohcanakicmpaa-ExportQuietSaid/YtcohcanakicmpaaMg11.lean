/- Plain laws of layer 27 (export): a tick keeps them. No program in sight. Moves and limits as plain data; what the law of layer 27 holds on its way. The law ExportKeeps walked; no condition. The words of the seat's cut, as signs; which facts of the program hang on them. -/
import Derived.Test.YtcohcanakicmpaaMg10
import Derived.Deep.DeepCutAuto
import Derived.Deep.CutBlock
import Derived.Test.YtcohcanakicmpaaRows
import Derived.JoinedOf
import Derived.KernelRfl
namespace Go.Proofs.Ytcohcanakicmpaa
open Go.RowKit Go.Peri
open Sq (rest ixQ atQ total bk benc)
open C26 (clk dueI restS againS givenS fate)
open C25 (roomR putR takeN)
open C10 (Okb bW)
open C09 (chS)
namespace C27
theorem asc_inj {l : List Sq} (h : l.Pairwise (fun a b => a.seq < b.seq)) : ∀ a ∈ l, ∀ b ∈ l, a.seq = b.seq → a = b := by
  induction l with
  | nil => intro a ha; simp at ha
  | cons y l ih =>
    rw [List.pairwise_cons] at h
    intro a ha b hb e
    rcases List.mem_cons.1 ha with e1 | ha1
    · rcases List.mem_cons.1 hb with e2 | hb1
      · rw [e1, e2]
      · have := h.1 b hb1; rw [e1] at e; omega
    · rcases List.mem_cons.1 hb with e2 | hb1
      · have := h.1 a ha1; rw [e2] at e; omega
      · exact ih h.2 a ha1 b hb1 e
theorem ready_is {c : Lim} {x : Xs} {now : Int} (h : readyB c x now = true) : 0 < x.wait.length ∧ (x.way.length : Int) < c.flight := by
  unfold readyB at h
  simp only [Bool.and_eq_true, decide_eq_true_eq] at h
  exact ⟨h.1, h.2.1⟩
theorem taken_is {c : Lim} {x : Xs} (ok : c.Ok) (h : 0 < x.wait.length) : 1 ≤ (takenX c x).length ∧ ((takenX c x).length : Int) ≤ c.batch ∧ (takenX c x).length + (x.wait.drop (takeN c.batch x.wait)).length = x.wait.length := by
  have hb := ok.batch
  have e : takeN c.batch x.wait = (max 0 (min c.batch (x.wait.length : Int))).toNat := rfl
  unfold takenX
  rw [List.length_take, List.length_drop, e]
  omega
theorem rest_way {c : Lim} {x : Xs} {i begun : Nat} {s : List Int} (h : Inv c x i begun s) (now : Int) : ∀ k ∈ restS now c.retry c.tries x.way, k.node = 0 ∧ (∃ q : Nat, k.seq = q ∧ q < x.next ∧ (bumps s (seqA now c.tries x.way))[q]? = some k.tries) ∧ 1 ≤ k.sp.length ∧ (k.sp.length : Int) ≤ c.batch ∧ (∀ y ∈ k.sp, y.Wf ∧ chS y = 0) ∧ 1 ≤ k.tries ∧ k.tries ≤ c.tries := by
  intro k hk
  obtain ⟨k0, h0, e1, e2, e3, e4⟩ := rest_from hk
  obtain ⟨a1, ⟨q, a2, a3, a4⟩, a5, a6, a7, a8, a9⟩ := h.way k0 h0
  obtain ⟨b1, b2⟩ := bumps_in (seqA now c.tries x.way) s (seqA_nodup h now c.tries) (seqA_lt h now c.tries)
  rw [e1, e2, e3]
  refine ⟨a1, ⟨q, a2, a3, ?_⟩, a5, a6, a7, ?_⟩
  · rw [b2 q]
    rcases e4 with ⟨f, t⟩ | ⟨f, t, _⟩
    · have hn : q ∉ seqA now c.tries x.way := by
        intro hm
        obtain ⟨k1, hk1, e⟩ := List.mem_map.1 hm
        obtain ⟨m1, m2⟩ := again_mem hk1
        obtain ⟨_, ⟨q1, c2, _⟩, _⟩ := h.way k1 m1
        have := asc_inj h.asc k1 m1 k0 h0 (by omega)
        subst this
        omega
      rw [if_neg hn, a4, t]
    · have hm : q ∈ seqA now c.tries x.way := by
        refine List.mem_map.2 ⟨k0, List.mem_filter.2 ⟨h0, by simpa using f⟩, by omega⟩
      rw [if_pos hm, a4, t]
      rfl
  · rcases e4 with ⟨_, t⟩ | ⟨_, t, u⟩ <;> omega
theorem inv_tick {c : Lim} {x : Xs} {i begun : Nat} {s : List Int} (h : Inv c x i begun s) (now : Int) (hn : 0 ≤ now ∧ now ≤ 1099511627776) : Inv c (stepX 0 c x now).1 (i + 1) begun (bumps s (seqs c x now)) := by
  obtain ⟨b1, b2⟩ := bumps_in (seqA now c.tries x.way) s (seqA_nodup h now c.tries) (seqA_lt h now c.tries)
  have hw := rest_way h now
  have hasc := rest_asc now c.retry c.tries x.way h.asc
  have hlen := rest_len now c.retry c.tries x.way
  have htot := rest_total now c.retry c.tries x.way
  have hsum := h.sum
  have hbi := h.bi
  have hnx := h.next
  have hfew := h.few
  have hs := h.sent
  have hroom := h.room
  unfold stepX seqs
  by_cases hr : readyB c (restX c x now) now = true
  · rw [if_pos hr, if_pos hr, bumps_snoc]
    obtain ⟨r1, r2⟩ := ready_is hr
    have r1' : 0 < x.wait.length := r1
    have r2' : ((restS now c.retry c.tries x.way).length : Int) < c.flight := r2
    obtain ⟨t1, t2, t3⟩ := taken_is h.ok r1'
    have eb : bump (bumps s (seqA now c.tries x.way)) x.next = bumps s (seqA now c.tries x.way) ++ [1] := by
      unfold bump
      rw [if_pos (by rw [b1, hs])]
    rw [eb]
    have ht : ∀ y ∈ takenX c x, y.Wf ∧ chS y = 0 := fun y hy => h.wait y (List.mem_of_mem_take hy)
    have hok := h.ok.tries
    refine ⟨h.ok, fun y hy => h.wait y (List.mem_of_mem_drop hy), ?_, ?_, ?_, ?_, ?_, by omega, h.lost, ?_, ?_, hn⟩
    · show (((x.wait.drop (takeN c.batch x.wait)).length : Nat) : Int) ≤ c.buf
      omega
    · intro k hk
      have hk : k ∈ restS now c.retry c.tries x.way ++ [oneX 0 c (restX c x now) now] := hk
      rcases List.mem_append.1 hk with hk | hk
      · obtain ⟨a1, ⟨q, a2, a3, a4⟩, a5⟩ := hw k hk
        refine ⟨a1, ⟨q, a2, by show q < x.next + 1; omega, ?_⟩, a5⟩
        rw [List.getElem?_append_left (by omega)]
        exact a4
      · obtain rfl := List.mem_singleton.1 hk
        refine ⟨rfl, ⟨x.next, rfl, Nat.lt_succ_self _, ?_⟩, t1, t2, ht, by show (1 : Int) ≤ 1; omega, by show (1 : Int) ≤ _; omega⟩
        rw [List.getElem?_append_right (by omega), show x.next - (bumps s (seqA now c.tries x.way)).length = 0 by omega]
        rfl
    · show (restS now c.retry c.tries x.way ++ [oneX 0 c (restX c x now) now]).Pairwise _
      rw [List.pairwise_append]
      refine ⟨hasc, by simp, fun a ha b hb => ?_⟩
      obtain rfl := List.mem_singleton.1 hb
      obtain ⟨_, ⟨q, a2, a3, _⟩, _⟩ := hw a ha
      show a.seq < (x.next : Int)
      omega
    · show (((restS now c.retry c.tries x.way ++ [oneX 0 c (restX c x now) now]).length : Nat) : Int) ≤ c.flight
      rw [List.length_append, List.length_singleton]
      omega
    · show (((x.wait.drop (takeN c.batch x.wait)).length + total (restS now c.retry c.tries x.way ++ [oneX 0 c (restX c x now) now]) + x.acked + (x.given + total (givenS now c.tries x.way)) : Nat) : Int) + x.lost = begun
      rw [total_cat, total_cons]
      have e : (oneX 0 c (restX c x now) now).sp.length = (takenX c x).length := rfl
      have e0 : total [] = 0 := rfl
      rw [e, e0]
      omega
    · show x.next + 1 ≤ _
      omega
    · show (bumps s (seqA now c.tries x.way) ++ [1]).length = x.next + 1
      rw [List.length_append, b1, hs]
      rfl
  · rw [if_neg hr, if_neg hr, List.append_nil]
    refine ⟨h.ok, h.wait, hroom, hw, hasc, ?_, ?_, by omega, h.lost, ?_, ?_, h.last⟩
    · show (((restS now c.retry c.tries x.way).length : Nat) : Int) ≤ c.flight
      omega
    · show ((x.wait.length + total (restS now c.retry c.tries x.way) + x.acked + (x.given + total (givenS now c.tries x.way)) : Nat) : Int) + x.lost = begun
      omega
    · show x.next ≤ _
      omega
    · rw [b1]; exact hs
theorem outs_seq {c : Lim} {x : Xs} (now : Int) : (stepX 0 c x now).2.map (fun b => b.2.1.toNat) = seqs c x now := by
  unfold stepX seqs seqA
  split
  · rw [List.map_append, List.map_map]
    show _ ++ [((x.next : Int)).toNat] = _
    rw [Int.toNat_natCast]
    rfl
  · rw [List.map_map, List.append_nil]
    rfl
theorem outs_ok {c : Lim} {x : Xs} {i begun : Nat} {s : List Int} (h : Inv c x i begun s) (hi : i ≤ 1000) (now : Int) : ∀ b ∈ (stepX 0 c x now).2, ∃ q : Nat, b.1 = 0 ∧ b.2.1 = q ∧ Okb 0 q b.2.2 ∧ (b.2.2.length : Int) ≤ c.batch := by
  have hbt := h.ok.batch
  have hnx := h.next
  have hA : ∀ b ∈ (againS now c.tries x.way).map bk, ∃ q : Nat, b.1 = 0 ∧ b.2.1 = q ∧ Okb 0 q b.2.2 ∧ (b.2.2.length : Int) ≤ c.batch := by
    intro b hb
    obtain ⟨k, hk, rfl⟩ := List.mem_map.1 hb
    obtain ⟨a1, ⟨q, a2, a3, a4⟩, a5, a6, a7, a8, a9⟩ := h.way k (again_mem hk).1
    exact ⟨q, a1, a2, ⟨by omega, by omega, ⟨a5, by show k.sp.length ≤ 16; omega⟩, a7⟩, a6⟩
  unfold stepX
  by_cases hr : readyB c (restX c x now) now = true
  · rw [if_pos hr]
    intro b hb
    rcases List.mem_append.1 hb with hb | hb
    · exact hA b hb
    · obtain rfl := List.mem_singleton.1 hb
      obtain ⟨r1, r2⟩ := ready_is hr
      have r1' : 0 < x.wait.length := r1
      obtain ⟨t1, t2, t3⟩ := taken_is h.ok r1'
      exact ⟨x.next, rfl, rfl, ⟨by omega, by omega, ⟨t1, by show (takenX c x).length ≤ 16; omega⟩, fun y hy => h.wait y (List.mem_of_mem_take hy)⟩, t2⟩
  · rw [if_neg hr]
    exact hA
theorem outs_many {c : Lim} {x : Xs} {i begun : Nat} {s : List Int} (h : Inv c x i begun s) (now : Int) : (stepX 0 c x now).2.length ≤ 9 := by
  have h1 : (againS now c.tries x.way).length ≤ x.way.length := List.length_filter_le _ _
  have h2 := h.few
  have h3 := h.ok.flight
  unfold stepX
  split
  · simp; omega
  · simp; omega
/-- What is met when the k-th batch is counted. -/
theorem chk {c : Lim} {x : Xs} {i begun : Nat} {s : List Int} (h : Inv c x i begun s) (now : Int) (k : Nat) (hk : k < (seqs c x now).length) :
    (seqs c x now)[k] = (bumps s ((seqs c x now).take k)).length ∨ ((seqs c x now)[k] < (bumps s ((seqs c x now).take k)).length ∧ ∃ t : Int, (bumps s ((seqs c x now).take k))[(seqs c x now)[k]]? = some t ∧ 1 ≤ t ∧ t < c.tries) := by
  have hnd := seqA_nodup h now c.tries
  have hlt := seqA_lt h now c.tries
  by_cases hA : k < (seqA now c.tries x.way).length
  · right
    have e1 : (seqs c x now).take k = (seqA now c.tries x.way).take k := by
      unfold seqs
      rw [List.take_append_of_le_length (by omega)]
    have e2 : (seqs c x now)[k] = (seqA now c.tries x.way)[k] := by
      have e0 : (seqs c x now)[k]? = (seqA now c.tries x.way)[k]? := by unfold seqs; rw [List.getElem?_append_left hA]
      rw [List.getElem?_eq_getElem hk, List.getElem?_eq_getElem hA] at e0
      exact Option.some.inj e0
    obtain ⟨b1, b2⟩ := bumps_in ((seqA now c.tries x.way).take k) s (hnd.sublist (List.take_sublist _ _)) (fun q hq => hlt q (List.mem_of_mem_take hq))
    have hm : (seqA now c.tries x.way)[k] ∈ seqA now c.tries x.way := List.getElem_mem hA
    have hnm : (seqA now c.tries x.way)[k] ∉ (seqA now c.tries x.way).take k := by
      intro hm2
      have e : seqA now c.tries x.way = (seqA now c.tries x.way).take k ++ (seqA now c.tries x.way)[k] :: (seqA now c.tries x.way).drop (k + 1) := by
        rw [← List.drop_eq_getElem_cons hA, List.take_append_drop]
      rw [e] at hnd
      have := (List.nodup_append.1 hnd).2.2 _ hm2 (seqA now c.tries x.way)[k] List.mem_cons_self
      exact this rfl
    rw [e1, e2, b1, b2, if_neg hnm]
    refine ⟨hlt _ hm, ?_⟩
    obtain ⟨y, hy, e⟩ := List.mem_map.1 hm
    obtain ⟨m1, m2⟩ := again_mem hy
    obtain ⟨_, ⟨q, a2, a3, a4⟩, _, _, _, a8, _⟩ := h.way y m1
    have e3 : (seqA now c.tries x.way)[k] = q := by omega
    rw [e3]
    exact ⟨y.tries, a4, a8, again_tries m2⟩
  · left
    obtain ⟨b1, b2⟩ := bumps_in (seqA now c.tries x.way) s hnd hlt
    by_cases hr : readyB c (restX c x now) now = true
    · have e : seqs c x now = seqA now c.tries x.way ++ [x.next] := by unfold seqs; rw [if_pos hr]
      have hl : (seqs c x now).length = (seqA now c.tries x.way).length + 1 := by rw [e]; simp
      obtain rfl : k = (seqA now c.tries x.way).length := by omega
      have e1 : (seqs c x now).take (seqA now c.tries x.way).length = seqA now c.tries x.way := by
        rw [e, List.take_append_of_le_length (Nat.le_refl _), List.take_length]
      have e2 : (seqs c x now)[(seqA now c.tries x.way).length] = x.next := by
        simp only [e]
        rw [List.getElem_append_right (Nat.le_refl _)]
        simp
      rw [e1, e2, b1, h.sent]
    · have e : seqs c x now = seqA now c.tries x.way := by unfold seqs; rw [if_neg hr, List.append_nil]
      rw [e] at hk
      omega
end C27
end Go.Proofs.Ytcohcanakicmpaa
namespace Go.Peri
open Go.RowKit
/-- A move. -/
structure Mv where
  kind : Int
  sp : Sp
  n : Int
namespace Mv
def enc (m : Mv) : List Value := [.int .i64 m.kind, .int .u64 m.sp.hi, .int .u64 m.sp.lo, .int .u64 m.sp.id, .int .u64 m.sp.up, .string m.sp.name, .int .i64 m.sp.status, .int .i64 m.sp.seq, .int .i64 m.sp.kids, .bool m.sp.shadow, .int .i64 m.sp.start, .int .i64 m.sp.stop, .int .i64 m.n]
theorem enc_length (m : Mv) : m.enc.length = 13 := rfl
def ty : Ty := .cons (.int .i64) (.cons Sp.ty (.cons (.int .i64) .nil))
structure Wf (m : Mv) : Prop where
  sp : m.sp.Wf
theorem of_rd {w : World} {B : Nat} {cs : List Value} (h : Rd w B ty cs) : ∃ m : Mv, cs = m.enc ∧ Wf m := by
  obtain ⟨_, _, rfl, _, h1, h⟩ := h
  obtain ⟨_, _, rfl, _, h2, h⟩ := h
  obtain ⟨_, _, rfl, _, h3, h⟩ := h
  obtain ⟨k, rfl, _⟩ := Sp.rd_i64 h1
  obtain ⟨s, rfl, hs⟩ := Sp.of_rd h2
  obtain ⟨n, rfl, _⟩ := Sp.rd_i64 h3
  obtain rfl := h
  exact ⟨⟨k, s, n⟩, rfl, ⟨hs⟩⟩
theorem cells {w : World} {b o : Nat} {m : Mv} (h : ∀ j u, (enc m)[j]? = some u → w.cell? ⟨b, o + j, none⟩ = some u) : w.cell? ⟨b, o, none⟩ = some (.int .i64 m.kind) ∧ w.cell? ⟨b, o + 1, none⟩ = some (.int .u64 m.sp.hi) ∧ w.cell? ⟨b, o + 2, none⟩ = some (.int .u64 m.sp.lo) ∧ w.cell? ⟨b, o + 3, none⟩ = some (.int .u64 m.sp.id) ∧ w.cell? ⟨b, o + 4, none⟩ = some (.int .u64 m.sp.up) ∧ w.cell? ⟨b, o + 5, none⟩ = some (.string m.sp.name) ∧ w.cell? ⟨b, o + 6, none⟩ = some (.int .i64 m.sp.status) ∧ w.cell? ⟨b, o + 7, none⟩ = some (.int .i64 m.sp.seq) ∧ w.cell? ⟨b, o + 8, none⟩ = some (.int .i64 m.sp.kids) ∧ w.cell? ⟨b, o + 9, none⟩ = some (.bool m.sp.shadow) ∧ w.cell? ⟨b, o + 10, none⟩ = some (.int .i64 m.sp.start) ∧ w.cell? ⟨b, o + 11, none⟩ = some (.int .i64 m.sp.stop) ∧ w.cell? ⟨b, o + 12, none⟩ = some (.int .i64 m.n) :=
  ⟨h 0 _ rfl, h 1 _ rfl, h 2 _ rfl, h 3 _ rfl, h 4 _ rfl, h 5 _ rfl, h 6 _ rfl, h 7 _ rfl, h 8 _ rfl, h 9 _ rfl, h 10 _ rfl, h 11 _ rfl, h 12 _ rfl⟩
end Mv
theorem moves_of_arg {w : World} {B : Nat} {v : Value} (h : Arg w B (.slice 112 Mv.ty) v) : ∃ l : List Mv, RowsOf (· < B) Mv.enc 13 w v l ∧ l.length * 112 ≤ 140737488351232 ∧ ∀ x ∈ l, x.Wf :=
  rows_of_arg (enc := Mv.enc) (fun _ => rfl) (fun _ h => Mv.of_rd h) h
namespace Lim
def ty : Ty := .cons (.int .i64) (.cons (.int .i64) (.cons (.int .i64) (.cons (.int .i64) (.cons (.int .i64) (.cons (.int .i64) (.cons (.int .i64) (.cons (.int .i64) (.cons (.int .i64) (.cons (.int .i64) (.cons (.int .i64) (.cons (.slice 8 (.int .u64)) .nil)))))))))))
def val (c : Lim) : Value := .agg #[.int .i64 c.a0, .int .i64 c.a1, .int .i64 c.a2, .int .i64 c.buf, .int .i64 c.batch, .int .i64 c.every, .int .i64 c.flight, .int .i64 c.retry, .int .i64 c.tries, .int .i64 c.a9, .int .i64 c.a10, .slice c.ida c.idn c.idc]
end Lim
theorem lim_of_arg {w : World} {B : Nat} {v : Value} (h : Arg w B Lim.ty v) : ∃ c : Lim, v = c.val := by
  obtain ⟨cs, rfl, h⟩ := h
  obtain ⟨_, _, e0, _, h0, h⟩ := h
  obtain ⟨_, _, rfl, _, h1, h⟩ := h
  obtain ⟨_, _, rfl, _, h2, h⟩ := h
  obtain ⟨_, _, rfl, _, h3, h⟩ := h
  obtain ⟨_, _, rfl, _, h4, h⟩ := h
  obtain ⟨_, _, rfl, _, h5, h⟩ := h
  obtain ⟨_, _, rfl, _, h6, h⟩ := h
  obtain ⟨_, _, rfl, _, h7, h⟩ := h
  obtain ⟨_, _, rfl, _, h8, h⟩ := h
  obtain ⟨_, _, rfl, _, h9, h⟩ := h
  obtain ⟨_, _, rfl, _, h10, h⟩ := h
  obtain ⟨_, _, rfl, _, h11, h⟩ := h
  obtain rfl := h
  obtain ⟨n0, rfl, _⟩ := Sp.rd_i64 h0
  obtain ⟨n1, rfl, _⟩ := Sp.rd_i64 h1
  obtain ⟨n2, rfl, _⟩ := Sp.rd_i64 h2
  obtain ⟨n3, rfl, _⟩ := Sp.rd_i64 h3
  obtain ⟨n4, rfl, _⟩ := Sp.rd_i64 h4
  obtain ⟨n5, rfl, _⟩ := Sp.rd_i64 h5
  obtain ⟨n6, rfl, _⟩ := Sp.rd_i64 h6
  obtain ⟨n7, rfl, _⟩ := Sp.rd_i64 h7
  obtain ⟨n8, rfl, _⟩ := Sp.rd_i64 h8
  obtain ⟨n9, rfl, _⟩ := Sp.rd_i64 h9
  obtain ⟨n10, rfl, _⟩ := Sp.rd_i64 h10
  obtain ⟨a, len, cap, rfl, _⟩ := h11
  refine ⟨⟨n0, n1, n2, n3, n4, n5, n6, n7, n8, n9, n10, a, len, cap⟩, ?_⟩
  unfold Lim.val
  congr 1
  apply Array.ext'
  rw [e0]
  rfl
end Go.Peri
namespace Go.Proofs.Ytcohcanakicmpaa
open Go.RowKit Go.Peri
open Sq (rest ixQ atQ total bk benc)
open Gen (owns_le owns_below)
open C26 (clk Fresh)
open C25 (BufIs roomR own Moved)
open C10 (Okb bW BrQ)
namespace C27
def ints (s : List Int) : List Value := s.map (Value.int .i64)
/-- What the law holds: an exporter, its own copy of the limits, how often each batch was sent. -/
structure KR (W w0 wr : World) (gX gS gB : Nat) (h : Option Nat) (c : Lim) (x : Xs) (s : List Int) (sv : Value) : Prop where
  ex : XIs wr gX gS gB h 0 c x
  far : x.far = blocks sv
  below : Below W.heap.size W wr
  box : Blk wr W.heap.size #[.int .i64 c.a0, .int .i64 c.a1, .int .i64 c.a2, .int .i64 c.buf, .int .i64 c.batch, .int .i64 c.every, .int .i64 c.flight, .int .i64 c.retry, .int .i64 c.tries, .int .i64 c.a9, .int .i64 c.a10, .slice c.ida c.idn c.idc] 24
  nb : W.heap.size ∉ gS :: own gB h
  nd : ∀ k ∈ blocks sv, k ∉ gS :: own gB h
  gw : W.heap.size < gB
  gx : gX < w0.heap.size
  lt : W.heap.size < w0.heap.size
  sz : w0.heap.size ≤ wr.heap.size
  row : wr.ownsRow w0.heap.size 3 1 sv s.length (ints s)
section
variable {W w0 wr w' : World} {gX gS gB : Nat} {h h' : Option Nat} {c : Lim} {x x' : Xs} {s s' : List Int} {sv sv' : Value}
theorem KR.step (k : KR W w0 wr gX gS gB h c x s sv) (ho : Only (gS :: own gB h) wr w') (hm : Moved wr h h') (hx : XIs w' gX gS gB h' 0 c x') (hf : x'.far = x.far) : KR W w0 w' gX gS gB h' c x' s sv :=
  ⟨hx, hf.trans k.far, k.below.trans ((k.ex.s.below ho).mono (Nat.le_of_lt k.gw)), k.box.only ho k.nb, ne_moved k.box.lt k.nb hm, fun b hb => ne_moved (owns_bd k.row b hb).2 (k.nd b hb) hm, k.gw, k.gx, k.lt, Nat.le_trans k.sz ho.size, owns_keep k.row ho k.nd⟩
theorem KR.later (k : KR W w0 wr gX gS gB h c x s sv) (hb : Below wr.heap.size wr w') : KR W w0 w' gX gS gB h c x s sv :=
  ⟨k.ex.later hb, k.far, k.below.trans (hb.mono k.below.size), k.box.later hb, k.nb, k.nd, k.gw, k.gx, k.lt, Nat.le_trans k.sz hb.size, owns_below k.row hb⟩
/-- The row of counts has changed. -/
theorem KR.sent (k : KR W w0 wr gX gS gB h c x s sv) (ho : Only (blocks sv) wr w') (hm : Moves wr.heap.size (blocks sv) (blocks sv')) (hr : w'.ownsRow w0.heap.size 3 1 sv' s'.length (ints s')) : KR W w0 w' gX gS gB h c { x with far := blocks sv' } s' sv' := by
  have hbd := owns_bd k.row
  have hz := k.sz
  have hgx := k.gx
  have hlt := k.lt
  have hL := k.ex.gS_lt
  have hnd' : ∀ b ∈ blocks sv', b ∉ gS :: own gB h := fun b hb hm2 => by
    rcases hm b hb with h1 | h1
    · exact k.nd b h1 hm2
    · have := hL b hm2; omega
  obtain ⟨⟨a, cap, h1, h2⟩, h3, h4, h5, h6⟩ := k.ex.s
  refine ⟨⟨k.ex.bx.only ho (fun hb => by have := (hbd _ hb).1; omega), ⟨⟨a, cap, h1.only ho (fun hb => k.nd _ hb (by simp)), ?_⟩, bufOnly h3 ho (fun b hb hm2 => k.nd b hb (by simp [hm2])), h4, h5, fun b hb => (owns_bd hr b hb).2⟩, k.ex.ne, k.ex.lt⟩, rfl, k.below.trans (ho.below k.below.size (fun b hb => by have := (hbd b hb).1; omega)), k.box.only ho (fun hb => by have := (hbd _ hb).1; omega), k.nb, hnd', k.gw, k.gx, k.lt, Nat.le_trans k.sz ho.size, hr⟩
  refine (h2.only ho (fun b hb => ⟨hb.1, fun hm2 => hb.2 (by rw [k.far]; simp [hm2])⟩)).imp (fun b hb => ⟨Nat.lt_of_lt_of_le hb.1 ho.size, ?_⟩)
  have h7 := hb.2
  rw [k.far] at h7
  simp only [List.mem_cons, List.mem_append, not_or] at h7 ⊢
  refine ⟨h7.1, h7.2.1, fun hm2 => ?_⟩
  rcases hm b hm2 with h8 | h8
  · exact h7.2.2 h8
  · have := hb.1; omega
end
theorem Inv.far {c : Lim} {x : Xs} {i b : Nat} {s : List Int} (h : Inv c x i b s) (T : List Nat) : Inv c { x with far := T } i b s :=
  ⟨h.ok, h.wait, h.room, h.way, h.asc, h.few, h.sum, h.bi, h.lost, h.next, h.sent, h.last⟩
theorem put_far (c : Lim) (x : Xs) (y : Sp) : (putX c x y).far = x.far := by unfold putX; split <;> rfl
theorem step_far (node : Int) (c : Lim) (x : Xs) (now : Int) : (stepX node c x now).1.far = x.far := by unfold stepX; split <;> rfl
theorem kr_start {W w0 : World} {gX gS gB : Nat} {c : Lim} (hx : XIs w0 gX gS gB none 0 c x0) (hb : Below W.heap.size W w0) (hk : Blk w0 W.heap.size #[.int .i64 c.a0, .int .i64 c.a1, .int .i64 c.a2, .int .i64 c.buf, .int .i64 c.batch, .int .i64 c.every, .int .i64 c.flight, .int .i64 c.retry, .int .i64 c.tries, .int .i64 c.a9, .int .i64 c.a10, .slice c.ida c.idn c.idc] 24) (hg : W.heap.size < gB) : KR W w0 w0 gX gS gB none c x0 [] (.slice none 0 0) := by
  have h1 := hx.s.lt
  have h2 := hx.s.gSlt
  refine ⟨hx, rfl, hb, hk, by simp [own]; omega, by simp [blocks, Value.ownBlock], hg, hx.bx.lt, hk.lt, Nat.le_refl _, World.ownsRow_nil _ _ _ _⟩
end C27
end Go.Proofs.Ytcohcanakicmpaa
namespace Go.Proofs.Ytcohcanakicmpaa
open Go.RowKit Go.Peri
open Sq (rest ixQ atQ total bk benc)
open Gen (owns_le owns_below owns_at)
open C26 (clk Fresh)
open C25 (BufIs roomR own Moved)
open C10 (Okb bW BrQ)
open C09 (chS)
namespace C27
theorem elemN : Elem Try.prog 32 3 1 8 := Elem.mk' (z := .int .i64 0) Try.underlying32 (by kernel_rfl) rfl (by decide)
theorem blk12 {w : World} {g t : Nat} {c : Lim} (h : Blk w g #[.int .i64 c.a0, .int .i64 c.a1, .int .i64 c.a2, .int .i64 c.buf, .int .i64 c.batch, .int .i64 c.every, .int .i64 c.flight, .int .i64 c.retry, .int .i64 c.tries, .int .i64 c.a9, .int .i64 c.a10, .slice c.ida c.idn c.idc] t) : w.cell? ⟨g, 0, none⟩ = some (.int .i64 c.a0) ∧ w.cell? ⟨g, 1, none⟩ = some (.int .i64 c.a1) ∧ w.cell? ⟨g, 2, none⟩ = some (.int .i64 c.a2) ∧ w.cell? ⟨g, 3, none⟩ = some (.int .i64 c.buf) ∧ w.cell? ⟨g, 4, none⟩ = some (.int .i64 c.batch) ∧ w.cell? ⟨g, 5, none⟩ = some (.int .i64 c.every) ∧ w.cell? ⟨g, 6, none⟩ = some (.int .i64 c.flight) ∧ w.cell? ⟨g, 7, none⟩ = some (.int .i64 c.retry) ∧ w.cell? ⟨g, 8, none⟩ = some (.int .i64 c.tries) ∧ w.cell? ⟨g, 9, none⟩ = some (.int .i64 c.a9) ∧ w.cell? ⟨g, 10, none⟩ = some (.int .i64 c.a10) ∧ w.cell? ⟨g, 11, none⟩ = some (.slice c.ida c.idn c.idc) := ⟨h.cell 0, h.cell 1, h.cell 2, h.cell 3, h.cell 4, h.cell 5, h.cell 6, h.cell 7, h.cell 8, h.cell 9, h.cell 10, h.cell 11⟩
theorem put_acked (c : Lim) (x : Xs) (y : Sp) : (putX c x y).acked = x.acked := by unfold putX; split <;> rfl
theorem step_acked (node : Int) (c : Lim) (x : Xs) (now : Int) : (stepX node c x now).1.acked = x.acked := by unfold stepX; split <;> rfl
theorem bump_at {s : List Int} {q : Nat} {t : Int} (h : s[q]? = some t) : q < s.length ∧ bump s q = s.set q (t + 1) ∧ (bump s q).length = s.length := by
  have hl : q < s.length := (List.getElem?_eq_some_iff.1 h).1
  unfold bump
  rw [if_neg (by omega)]
  refine ⟨hl, ?_, by simp⟩
  rw [List.getD_eq_getElem?_getD, h]
  rfl
theorem bump_end (s : List Int) : bump s s.length = s ++ [1] := by unfold bump; rw [if_pos rfl]
theorem bumps_len (l : List Nat) : ∀ s : List Int, (bumps s l).length ≤ s.length + l.length := by
  induction l with
  | nil => intro s; simp [bumps]
  | cons q l ih =>
    intro s
    have h1 := ih (bump s q)
    have h2 : (bump s q).length ≤ s.length + 1 := by
      unfold bump
      split <;> simp
    show (bumps (bump s q) l).length ≤ _
    rw [List.length_cons]
    omega
theorem ints_set (s : List Int) (q : Nat) (t : Int) : (ints s).set q (.int .i64 t) = ints (s.set q t) := by unfold ints; rw [List.map_set]
theorem ints_push {s : List Int} {q : Nat} (h : q = s.length) : (ints s ++ [Value.int .i64 0]).set q (Value.int .i64 1) = ints (s ++ [1]) := by
  subst h
  unfold ints
  simp [List.set_append]
theorem ints_get {s : List Int} {q : Nat} {t : Int} (h : s[q]? = some t) : (ints s)[q]? = some (.int .i64 t) := by unfold ints; rw [List.getElem?_map, h]; rfl
set_option maxRecDepth 100000 in
set_option maxHeartbeats 64000000 in
theorem keeps_walk (c : Lim) (v : Value) (l : List Mv) (W : World) (hv : RowsOf (· < W.heap.size) Mv.enc 13 W v l) (hw : ∀ m ∈ l, m.Wf) :
    Calls Try.prog 3 #[.agg #[.int .i64 c.a0, .int .i64 c.a1, .int .i64 c.a2, .int .i64 c.buf, .int .i64 c.batch, .int .i64 c.every, .int .i64 c.flight, .int .i64 c.retry, .int .i64 c.tries, .int .i64 c.a9, .int .i64 c.a10, .slice c.ida c.idn c.idc], v] W fun e w' => e = .returned (.bool true) ∧ Below W.heap.size W w' := by
  obtain ⟨a, cap, rfl, -, -, -, hcell⟩ := hv
  have HC := hid hcell
  have HW := hid hw
  have XK := hid known_any
  obtain ⟨n, hn⟩ : ∃ n, n = l.length := ⟨_, rfl⟩
  have HN := hid hn
  rw [← hn]
  have XRC : Hid (∀ w, Calls Try.prog 5 #[.agg #[.int .i64 c.a0, .int .i64 c.a1, .int .i64 c.a2, .int .i64 c.buf, .int .i64 c.batch, .int .i64 c.every, .int .i64 c.flight, .int .i64 c.retry, .int .i64 c.tries, .int .i64 c.a9, .int .i64 c.a10, .slice c.ida c.idn c.idc]] w fun e w' => e = .returned (.int .i64 (chL c)) ∧ Below w.heap.size w w') := hid (fun w => rcheck_any c w)
  have HOK : Hid (chL c = 0 → c.Ok) := hid ok_of
  clear hcell hw hn
  by_cases hlen : 200 < n
  · have hb1 : (200 : Int) < (n : Int) := by omega
    go_enter Try.func3, Try.ntmps3
    go_wp2_with fail
    refine (XK.out _).mono ?_
    rintro e w3 ⟨rfl, hb3⟩
    go_wp2_with fail
    go_ret
    exact ⟨rfl, ((Below.refl _ _).alloc (Nat.le_refl _) _).trans (hb3.mono (by simp))⟩
  have hb1 : ¬ (200 : Int) < (n : Int) := by omega
  go_enter Try.func3, Try.ntmps3
  go_upto_region 1 with fail
  refine wp_genS ?_
  intro w1 hw1
  have hb2 : Below W.heap.size W w1 := by rw [hw1]; go_grown
  have hk1 : Blk w1 W.heap.size #[.int .i64 c.a0, .int .i64 c.a1, .int .i64 c.a2, .int .i64 c.buf, .int .i64 c.batch, .int .i64 c.every, .int .i64 c.flight, .int .i64 c.retry, .int .i64 c.tries, .int .i64 c.a9, .int .i64 c.a10, .slice c.ida c.idn c.idc] 24 := by rw [hw1]; exact Blk.new _ _ _
  have HB1 := hid hb2
  have HK1 := hid hk1
  obtain ⟨e0, e1, e2, e3, e4, e5, e6, e7, e8, e9, e10, e11⟩ := blk12 hk1
  clear hw1 hb2 hk1
  go_wp2_with fail
  refine (XRC.out _).mono ?_
  rintro e w2 ⟨rfl, hb2⟩
  have HB2 := hid (HB1.out.trans (hb2.mono HB1.out.size))
  have HK2 := hid (HK1.out.later hb2)
  clear hb2 e0 e1 e2 e3 e4 e5 e6 e7 e8 e9 e10 e11 HB1 HK1
  by_cases hcl : ¬ chL c = 0
  · generalize chL c = r at hcl ⊢
    go_wp2_with fail
    refine (XK.out _).mono ?_
    rintro e w3 ⟨rfl, hb3⟩
    go_wp2_with fail
    go_ret
    exact ⟨rfl, HB2.out.trans (hb3.mono HB2.out.size)⟩
  have hcl := Decidable.not_not.1 hcl
  have OK := hid (HOK.out hcl)
  rw [hcl]
  clear hcl
  obtain ⟨e0, e1, e2, e3, e4, e5, e6, e7, e8, e9, e10, e11⟩ := blk12 HK2.out
  have hl2 := HK2.out.lt
  have XN : Hid (Calls Try.prog 7 #[.int .i64 0, .agg #[.int .i64 c.a0, .int .i64 c.a1, .int .i64 c.a2, .int .i64 c.buf, .int .i64 c.batch, .int .i64 c.every, .int .i64 c.flight, .int .i64 c.retry, .int .i64 c.tries, .int .i64 c.a9, .int .i64 c.a10, .slice c.ida c.idn c.idc]] w2 (NewQ w2 0 c)) := hid (new_any 0 c OK.out w2 (by decide) (by decide))
  go_wp2_with fail
  refine XN.out.mono ?_
  rintro e w0 ⟨gB, gS, gX, rfl, hge, hb3, hx0⟩
  have HB0 := hid (HB2.out.trans (hb3.mono HB2.out.size))
  have HKR0 := hid (kr_start hx0.out HB0.out (HK2.out.later hb3) (by omega))
  have HIV0 := hid (inv0 OK.out)
  clear hb3 hx0 hge hl2 e0 e1 e2 e3 e4 e5 e6 e7 e8 e9 e10 e11 XN HK2 HB2 XRC HOK
  go_wp2_with fail
  go_loopw [7, 8, 9, 10] (fun s7 s8 s9 s10 wr => ∃ (i b : Nat) (x : Xs) (h : Option Nat) (s : List Int) (sv : Value), i ≤ n ∧ s10 = .int .i64 i ∧ s7 = .int .i64 b ∧ s8 = .int .i64 x.acked ∧ sv = s9 ∧ Hid (KR W w0 wr gX gS gB h c x s sv ∧ Inv c x i b s)) (fun _ _ _ s10 _ => n - (intOf s10).toNat)
  case atStart => exact ⟨0, 0, x0, none, [], .slice none 0 0, Nat.zero_le _, rfl, rfl, rfl, rfl, hid ⟨HKR0.out, HIV0.out⟩⟩
  case round =>
    obtain ⟨i, b, x, h, s, sv, hi, rfl, rfl, rfl, rfl, HR⟩ := hrel
    obtain ⟨wo, hwo⟩ : ∃ w, w = wr := ⟨_, rfl⟩
    subst hwo
    clear HKR0 HIV0
    by_cases hge : n ≤ i
    · obtain rfl : i = n := by omega
      go_wp2_with fail
      refine (XK.out _).mono ?_
      rintro e w3 ⟨rfl, hb3⟩
      go_wp2_with fail
      go_ret
      exact ⟨rfl, HR.out.1.below.trans (hb3.mono HR.out.1.below.size)⟩
    have hlt : i < n := by omega
    have hltl : i < l.length := by rw [← HN.out]; exact hlt
    clear hge
    obtain ⟨bA, off, rfl, hpA, hc⟩ := HC.out.resolve_left (by intro e; rw [e] at hltl; simp at hltl)
    have HCE : Hid (∀ w', Below W.heap.size W w' → ∀ j u, (l[i].enc)[j]? = some u → w'.cell? ⟨bA, off + i * 13 + j, none⟩ = some u) := hid (fun w' hb j u hu => (hb.cell (p := ⟨bA, off + i * 13 + j, none⟩) hpA).trans (hc i hltl j u hu))
    have HWM := hid (HW.out l[i] (List.getElem_mem hltl))
    have hsz := HR.out.1.below.size
    have hlA : bA < wo.heap.size := by omega
    clear hc
    generalize l[i] = m at HCE HWM
    obtain ⟨d0, d1, d2, d3, d4, d5, d6, d7, d8, d9, d10, d11, d12⟩ := Mv.cells (fun j u hu => HCE.out wo HR.out.1.below j u hu)
    have HBD := hid (HR.out.2.bd (by omega))
    by_cases hnm : 200 < m.sp.name.size
    · have hb2 : (200 : Int) < (m.sp.name.size : Int) := by omega
      go_wp2_with fail
      refine (XK.out _).mono ?_
      rintro e w3 ⟨rfl, hb3⟩
      go_wp2_with fail
      go_ret
      exact ⟨rfl, HR.out.1.below.trans (hb3.mono HR.out.1.below.size)⟩
    have hb2 : ¬ (200 : Int) < (m.sp.name.size : Int) := by omega
    obtain ⟨kd, hkd⟩ : ∃ k, m.kind = k := ⟨_, rfl⟩
    rw [hkd] at d0
    clear hkd hnm
    go_upto_block 2 with fail
    go_cut [7, 8, 9] (fun s7 s8 s9 wx => ∃ (b' : Nat) (x' : Xs) (h' : Option Nat) (s' : List Int) (sv' : Value), s7 = .int .i64 b' ∧ s8 = .int .i64 x'.acked ∧ sv' = s9 ∧ Hid (KR W w0 wx gX gS gB h' c x' s' sv' ∧ Inv c x' (i + 1) b' s'))
    case first =>
      by_cases hk0 : kd = 0
      · subst hk0
        as_aux_lemma =>
          have XP := hid (put_any gX gS gB h 0 c x m.sp wo HR.out.1.ex HWM.out.sp)
          obtain ⟨r, hr⟩ : ∃ r, putE c x m.sp = r := ⟨_, rfl⟩
          have XP2 : Hid (Calls Try.prog 8 #[.pointer (some ⟨gX, 0, none⟩), .agg #[.int .u64 m.sp.hi, .int .u64 m.sp.lo, .int .u64 m.sp.id, .int .u64 m.sp.up, .string m.sp.name, .int .i64 m.sp.status, .int .i64 m.sp.seq, .int .i64 m.sp.kids, .bool m.sp.shadow, .int .i64 m.sp.start, .int .i64 m.sp.stop]] wo fun e w' => e = .returned (.int .i64 r) ∧ ∃ h', Hid (KR W w0 w' gX gS gB h' c (putX c x m.sp) s sv)) := hid (XP.out.mono (by
            rintro e w' ⟨rfl, h', ho, hm, hx⟩
            exact ⟨by rw [hr], h', hid (HR.out.1.step ho hm hx.out (put_far c x m.sp))⟩))
          have HIP := hid (inv_put HR.out.2 (by omega) m.sp HWM.out.sp)
          have HRR := hid hr
          clear hr XP
          go_wp2_with fail
          refine XP2.out.mono ?_
          rintro e w4 ⟨rfl, h4, HK7⟩
          have hlA4 : bA < w4.heap.size := by have := HK7.out.below.size; omega
          clear XP2 d0 d1 d2 d3 d4 d5 d6 d7 d8 d9 d10 d11 d12
          by_cases hr0 : r = 0
          · subst hr0
            have HI7 : Hid (Inv c (putX c x m.sp) (i + 1) (b + 1) s) := hid (by
              have h1 := HIP.out
              rw [if_pos (.inl HRR.out)] at h1
              exact h1)
            have hwb : (b : Int) ≤ 1000 := by have := HR.out.2.bi; omega
            go_wp2_with fail
            go_meet
            case rel => exact ⟨b + 1, putX c x m.sp, h4, s, sv, by go_num, by rw [put_acked], rfl, hid ⟨HK7.out, HI7.out⟩⟩
          by_cases hr8 : r = 8
          · subst hr8
            have HI7 : Hid (Inv c (putX c x m.sp) (i + 1) (b + 1) s) := hid (by
              have h1 := HIP.out
              rw [if_pos (.inr HRR.out)] at h1
              exact h1)
            have hwb : (b : Int) ≤ 1000 := by have := HR.out.2.bi; omega
            go_wp2_with fail
            go_meet
            case rel => exact ⟨b + 1, putX c x m.sp, h4, s, sv, by go_num, by rw [put_acked], rfl, hid ⟨HK7.out, HI7.out⟩⟩
          have HI7 : Hid (Inv c (putX c x m.sp) (i + 1) b s) := hid (by
            have h1 := HIP.out
            rw [if_neg (by rw [HRR.out]; omega)] at h1
            exact h1)
          have hrc : chS m.sp = r := by
            have h1 := HRR.out
            unfold putE at h1
            by_cases h2 : chS m.sp = 0
            · rw [if_pos h2] at h1
              split at h1 <;> omega
            · rw [if_neg h2] at h1
              exact h1
          have XS := hid (fun w => C09.rscheck_any m.sp r w HWM.out.sp hrc)
          clear hrc
          have q0 : (r == 0) = false := by simpa using hr0
          have q8 : (r == 8) = false := by simpa using hr8
          obtain ⟨d0, d1, d2, d3, d4, d5, d6, d7, d8, d9, d10, d11, d12⟩ := Mv.cells (fun j u hu => HCE.out w4 HK7.out.below j u hu)
          go_wp2_with fail
          refine (XS.out _).mono ?_
          rintro e w5 ⟨rfl, hb5⟩
          have HK8 := hid (HK7.out.later hb5)
          clear hb5 HK7 XS d0 d1 d2 d3 d4 d5 d6 d7 d8 d9 d10 d11 d12
          have HK7 := HK8
          clear HK8
          go_wp2_with fail
          go_meet
          case rel => exact ⟨b, putX c x m.sp, h4, s, sv, rfl, by rw [put_acked], rfl, hid ⟨HK7.out, HI7.out⟩⟩
      have hk0b : (kd == 0) = false := by simpa using hk0
      by_cases hk1 : kd = 1
      · subst hk1
        as_aux_lemma =>
          have hcl := HR.out.2.ok
          have XP := hid (tick_any gX gS gB h 0 c x m.n wo HR.out.1.ex HBD.out (fun y hy => by
            obtain ⟨q, h1, h2, h3, _⟩ := outs_ok HR.out.2 (by omega) (clk m.n) y hy
            refine ⟨by omega, by omega, ?_⟩
            rw [h1, h2, Int.toNat_natCast]
            exact h3) (by have := outs_many HR.out.2 (clk m.n); omega))
          obtain ⟨ol, hol⟩ : ∃ o, (stepX 0 c x (clk m.n)).2 = o := ⟨_, rfl⟩
          obtain ⟨n2, hn2⟩ : ∃ o, o = ol.length := ⟨_, rfl⟩
          obtain ⟨x1, hx1⟩ : ∃ o, (stepX 0 c x (clk m.n)).1 = o := ⟨_, rfl⟩
          have HOL := hid hol
          have HX1 := hid hx1
          have HN2 := hid hn2
          have hn9 : n2 ≤ 9 := by rw [hn2, ← hol]; exact outs_many HR.out.2 (clk m.n)
          have XP2 : Hid (Calls Try.prog 10 #[.pointer (some ⟨gX, 0, none⟩), .int .i64 m.n] wo fun e w' => ∃ ao co, e = .returned (.slice ao n2 co) ∧ wo.heap.size ≤ w'.heap.size ∧ Hid (KR W w0 w' gX gS gB h c x1 s sv ∧ RowsOf (Fresh wo.heap.size w') sEnc 1 w' (.slice ao n2 co) (ol.map outB))) := hid (XP.out.mono (by
            rintro e w' ⟨v, rfl, ho, hx⟩
            have hr := hx.out.2
            have hr2 := hr
            rw [hol] at hr2
            obtain ⟨ao, co, rfl, -⟩ := hr2
            rw [hol] at hr
            have e2 : (ol.map outB).length = n2 := by rw [List.length_map, hn2]
            rw [e2] at hr ⊢
            refine ⟨ao, co, rfl, ho.size, hid ⟨?_, hr⟩⟩
            rw [← hx1]
            exact HR.out.1.step ho (.inl rfl) hx.out.1 (step_far 0 c x (clk m.n))))
          clear hol hn2 hx1 XP
          go_wp2_with fail
          refine XP2.out.mono ?_
          rintro e w4 ⟨ao, co, rfl, hsz4, HQ4⟩
          have HK4 := hid HQ4.out.1
          obtain ⟨rs, hrs⟩ : ∃ r, r = wo.heap.size := ⟨_, rfl⟩
          have HR4 : Hid (RowsOf (fun b => rs ≤ b ∧ b < w4.heap.size) sEnc 1 w4 (.slice ao n2 co) (ol.map outB) ∧ ∀ k ∈ blocks sv, k < rs) := hid ⟨by rw [hrs]; exact HQ4.out.2, fun k hk => by rw [hrs]; exact (owns_bd HR.out.1.row k hk).2⟩
          clear XP2 HQ4 d0 d1 d2 d3 d4 d5 d6 d7 d8 d9 d10 d11 d12 hrs hsz4
          have hst4 : Hid (KR W w0 w4 gX gS gB h c { x1 with far := blocks sv } s sv) := hid (by
            have h1 := HK4.out
            have h2 : { x1 with far := blocks sv } = x1 := by rw [← h1.far]
            rw [h2]
            exact h1)
          go_wp2_with fail
          go_loopw [9, 13] (fun s9 s13 wq => ∃ (k : Nat) (su : Value), k ≤ n2 ∧ s13 = .int .i64 k ∧ su = s9 ∧ Hid (KR W w0 wq gX gS gB h c { x1 with far := blocks su } (bumps s ((seqs c x (clk m.n)).take k)) su ∧ w4.heap.size ≤ wq.heap.size ∧ RowsOf (fun b => rs ≤ b ∧ b < w4.heap.size) sEnc 1 wq (.slice ao n2 co) (ol.map outB) ∧ ∀ k ∈ blocks su, k < rs ∨ w4.heap.size ≤ k)) (fun _ s13 _ => n2 - (intOf s13).toNat)
          case atStart => exact ⟨0, sv, Nat.zero_le _, rfl, rfl, hid ⟨hst4.out, Nat.le_refl _, HR4.out.1, fun k hk => .inl (HR4.out.2 k hk)⟩⟩
          case round =>
            obtain ⟨k, su, hk, rfl, rfl, HZ⟩ := hrel
            clear HK4 HR4 hst4
            by_cases hge : n2 ≤ k
            · obtain rfl : k = n2 := by omega
              have hsl : (seqs c x (clk m.n)).length = k := by rw [HN2.out, ← outs_seq, List.length_map, HOL.out]
              have HI7 : Hid (Inv c { x1 with far := blocks su } (i + 1) b (bumps s (seqs c x (clk m.n)))) := hid (by
                have h1 := inv_tick HR.out.2 (clk m.n) (by unfold clk; omega)
                rw [HX1.out] at h1
                exact h1.far (blocks su))
              have HK7 : Hid (KR W w0 wr gX gS gB h c { x1 with far := blocks su } (bumps s (seqs c x (clk m.n))) su) := hid (by
                have h1 := HZ.out.1
                rw [← hsl, List.take_length] at h1
                exact h1)
              have hac1 : ({ x1 with far := blocks su } : Xs).acked = x.acked := by
                show x1.acked = x.acked
                rw [← HX1.out]; exact step_acked 0 c x (clk m.n)
              clear HZ hsl
              go_wp2_with fail
              go_meet
              case rel => exact ⟨b, { x1 with far := blocks su }, h, bumps s (seqs c x (clk m.n)), su, rfl, by rw [hac1], rfl, hid ⟨HK7.out, HI7.out⟩⟩
            have hlt2 : k < n2 := by omega
            clear hge
            have hlo : k < ol.length := by rw [← HN2.out]; exact hlt2
            have hls : k < (seqs c x (clk m.n)).length := by rw [← outs_seq, List.length_map, HOL.out]; exact hlo
            have hmem : ol[k] ∈ (stepX 0 c x (clk m.n)).2 := by rw [HOL.out]; exact List.getElem_mem hlo
            obtain ⟨q, o1, o2, o3, o4⟩ := outs_ok HR.out.2 (by omega) (clk m.n) ol[k] hmem
            have hq : (seqs c x (clk m.n))[k] = q := by
              have e0 : (seqs c x (clk m.n))[k]? = some q := by
                rw [← outs_seq, List.getElem?_map, HOL.out, List.getElem?_eq_getElem hlo]
                show some ol[k].2.1.toNat = some q
                rw [o2, Int.toNat_natCast]
              rw [List.getElem?_eq_getElem hls] at e0
              exact Option.some.inj e0
            have hck := chk HR.out.2 (clk m.n) k hls
            rw [hq] at hck
            have htk : bumps s ((seqs c x (clk m.n)).take (k + 1)) = bump (bumps s ((seqs c x (clk m.n)).take k)) q := by
              rw [List.take_succ_eq_append_getElem hls, bumps_snoc, hq]
            have hob : outB ol[k] = bW 0 q ol[k].2.2 := by unfold outB; rw [o1, o2, Int.toNat_natCast]; rfl
            obtain ⟨lb, hlb⟩ : ∃ o, ol[k].2.2 = o := ⟨_, rfl⟩
            rw [hlb] at o3 o4 hob
            have hrow := HZ.out.2.2.1
            obtain ⟨ao', co', eao, -, -, -, hcl2⟩ := hrow
            have hml : (ol.map outB).length = n2 := by rw [List.length_map, HN2.out]
            rw [hml] at eao
            cases eao
            obtain ⟨bo, oo, rfl, hpo, hco⟩ := hcl2.resolve_left (by intro e; rw [e] at hml; simp at hml; omega)
            have c0 : wr.cell? ⟨bo, oo + k, none⟩ = some (.string (bW 0 q lb)) := by
              have h1 := hco k (by rw [hml]; exact hlt2) 0 (.string (bW 0 q lb)) (by simp [sEnc, hob])
              simpa using h1
            have hlbo : bo < wr.heap.size := by have := HZ.out.2.1; omega
            have XR : Hid (Calls Try.prog 11 #[.string (bW 0 q lb)] wr fun e w' => ∃ a c, e = .returned (.tuple #[.agg #[.int .i64 0, .int .i64 q, .slice a lb.length c], .int .i64 0]) ∧ Below wr.heap.size wr w') := hid ((C10.rbread_any 0 q lb wr o3).mono (by
              rintro e w' ⟨a, c, rfl, hb, _⟩
              exact ⟨a, c, rfl, hb⟩))
            obtain ⟨sK, hsK⟩ : ∃ o, bumps s ((seqs c x (clk m.n)).take k) = o := ⟨_, rfl⟩
            rw [hsK] at hck htk HZ
            have hok8 := hcl.tries
            have hbl : (lb.length : Int) ≤ c.batch := o4
            obtain ⟨nl, hnl⟩ : ∃ o, lb.length = o := ⟨_, rfl⟩
            rw [hnl] at XR hbl
            generalize bW 0 q lb = bb at c0 XR
            have HTK := hid htk
            have hsn : sK.length ≤ 2000 := by
              have h1 := bumps_len ((seqs c x (clk m.n)).take k) s
              rw [hsK, List.length_take] at h1
              have h2 := HR.out.2.next
              have h3 := HR.out.2.sent
              omega
            clear o1 o2 o3 o4 hmem hq htk hob hlb hcl2 hml hpo hco hsK hls hlo hnl
            go_wp2_with fail
            refine XR.out.mono ?_
            rintro e w5 ⟨ar, cr, rfl, hb5⟩
            have HB5 := hid hb5
            clear hb5 XR c0
            obtain ⟨sa, sc, rfl⟩ := owns_form HZ.out.1.row
            obtain ⟨nS, hnS⟩ : ∃ o, o = sK.length := ⟨_, rfl⟩
            have HNS := hid hnS
            rw [← hnS] at hck hsn HZ ⊢
            clear hnS
            go_upto_region 27 with fail
            refine wp_genS ?_
            intro w6 hw6
            have hb6 : Below w5.heap.size w5 w6 := by rw [hw6]; go_grown
            have hk6 : Blk w6 w5.heap.size #[.int .i64 0, .int .i64 q, .slice ar nl cr] 45 := by rw [hw6]; exact Blk.new _ _ _
            have HB6 := hid (HB5.out.trans (hb6.mono HB5.out.size))
            have HK6 := hid (HZ.out.1.later HB6.out)
            have hl56 := hk6.lt
            have HR6 : Hid (RowsOf (fun b => rs ≤ b ∧ b < w4.heap.size) sEnc 1 w6 (.slice (some ⟨bo, oo, none⟩) n2 co) (ol.map outB)) := hid (HZ.out.2.2.1.below HB6.out (fun b hb => by have := HZ.out.2.1; omega))
            have HN6 : Hid (∀ k ∈ blocks (.slice sa nS sc), k < wr.heap.size ∧ (k < rs ∨ w4.heap.size ≤ k)) := hid (fun k hk => ⟨(owns_bd HZ.out.1.row k hk).2, HZ.out.2.2.2 k hk⟩)
            have hz6 : w4.heap.size ≤ wr.heap.size ∧ wr.heap.size ≤ w5.heap.size := ⟨HZ.out.2.1, HB5.out.size⟩
            have HBK := hid hk6
            obtain ⟨j0, j1, j2⟩ := C10.blk3o hk6
            obtain ⟨e0, e1, e2, e3, e4, e5, e6, e7, e8, e9, e10, e11⟩ := blk12 HK6.out.box
            have hlW := HK6.out.box.lt
            have hROW : w6.ownsRow w0.heap.size 3 1 (.slice sa nS sc) nS (ints sK) := by
              have h1 := HK6.out.row
              rw [← HNS.out] at h1
              exact h1
            have HROW := hid hROW
            have hw0 : w0.heap.size ≤ w6.heap.size := HK6.out.sz
            clear hw6 hb6 hk6 hROW HZ
            by_cases hqe : q = nS
            · subst hqe
              have h63 : q + 1 ≤ maxLen := by unfold maxLen; omega
              have hby : (q + 1) * 8 ≤ 140737488355328 := by omega
              have hdt : decide (c.tries < 1) = false := decide_eq_false (by omega)
              go_upto_region 32 with (at_builtin; refine wpList_push_at (w0 := w6) (T := 3) (news := [.int .i64 0]) elemN rfl _ _ rfl w0.heap.size (.slice sa q sc) q _ rfl HROW.out rfl rfl rfl (by simp [Value.oneCell']) h63 hby hw0 ?_; intro v9 w9 hown9 ho9 hm9; obtain ⟨g9, c9, rfl, hg9, hgl9⟩ := owns_at hown9 (by omega); have hk9 := HBK.out.only ho9 (fun hm => by have := (HN6.out _ hm).1; omega); have j1' : w9.cell? ⟨w5.heap.size, 1, none⟩ = some (.int .i64 q) := hk9.cell 1; have hl9 := hk9.lt; have z9 : w9.cell? ⟨g9, q, none⟩ = some (.int .i64 0) := by { rw [hown9.cellAt q (by omega), List.getElem?_append_right (by unfold ints; rw [List.length_map, HNS.out]; omega)]; unfold ints; rw [List.length_map, ← HNS.out, Nat.sub_self]; rfl }; have zf9 : w9.frozen? ⟨g9, q, none⟩ = false := hown9.frozenAt _; have HK9 := hid hk9; have HO9 := hid ho9; have HM9 := hid hm9; have HW9 := hid hown9; clear hk9 ho9 hm9 hown9)
              refine wp_genS ?_
              intro w10 hw10
              have hgw : g9 ∈ blocks (.slice sa q sc) ∨ w6.heap.size ≤ g9 := HM9.out g9 (by simp [blocks, Value.ownBlock])
              have HO10 : Hid (Only (blocks (.slice sa q sc)) w6 w10 ∧ Only [g9] w9 w10) := hid (by
                rw [hw10]
                refine ⟨?_, (Only.refl _ _).setCell (by simp) _⟩
                rcases hgw with h1 | h1
                · exact HO9.out.setCell h1 _
                · exact HO9.out.setNew h1 _)
              have HROW10 : Hid (w10.ownsRow w0.heap.size 3 1 (.slice (some ⟨g9, 0, none⟩) (q + 1) c9) (bump sK q).length (ints (bump sK q))) := hid (by
                have h1 := (HW9.out.stored q (.int .i64 1)).1
                have e1 : bump sK q = sK ++ [1] := by rw [HNS.out]; exact bump_end sK
                have e2 : (ints sK ++ [Value.int .i64 0]).set q (Value.int .i64 1) = ints (bump sK q) := by
                  rw [e1]
                  exact ints_push HNS.out
                rw [e2] at h1
                have e3 : (bump sK q).length = q + 1 := by rw [e1, List.length_append, ← HNS.out]; rfl
                rw [e3, hw10]
                exact h1)
              have HK10 := hid (HK6.out.sent HO10.out.1 HM9.out HROW10.out)
              have j1'' : w10.cell? ⟨w5.heap.size, 1, none⟩ = some (.int .i64 q) := (HK9.out.only HO10.out.2 (fun hm => by
                simp at hm
                rcases hgw with h1 | h1
                · have := (HN6.out _ h1).1; omega
                · omega)).cell 1
              have z10 : w10.cell? ⟨g9, q, none⟩ = some (.int .i64 1) := by rw [hw10]; exact World.cell?_setCell_same _ _ _ z9
              have e8' : w10.cell? ⟨W.heap.size, 8, none⟩ = some (.int .i64 c.tries) := HK10.out.box.cell 8
              have hl10 : w5.heap.size < w10.heap.size := Nat.lt_of_lt_of_le hl56 HO10.out.1.size
              have hlg10 : g9 < w10.heap.size := Nat.lt_of_lt_of_le hgl9 HO10.out.2.size
              have hlW10 := HK10.out.box.lt
              clear hw10 j0 j1 j2 e0 e1 e2 e3 e4 e5 e6 e7 e8 e9 e10 e11 j1' z9 zf9
              go_wp2_with fail
              go_quiet (fail)
              go_wp2_with fail
              go_roundw
              case rel =>
                refine ⟨k + 1, .slice (some ⟨g9, 0, none⟩) (q + 1) c9, by omega, by go_num, rfl, hid ⟨?_, ?_, ?_, ?_⟩⟩
                · rw [HTK.out]
                  exact HK10.out.later ⟨rfl, rfl, rfl, Nat.le_refl _, fun _ _ => rfl⟩
                · have := HO10.out.1.size
                  show w4.heap.size ≤ w10.heap.size
                  omega
                · exact ((HR6.out.only HO10.out.1 (fun b hb => ⟨by omega, fun hm => by have := (HN6.out _ hm).2; omega⟩)).below (B := w10.heap.size) ⟨rfl, rfl, rfl, Nat.le_refl _, fun _ _ => rfl⟩ (fun b hb => by have := HO10.out.1.size; omega))
                · intro k hk
                  rcases HM9.out k hk with h1 | h1
                  · exact (HN6.out k h1).2
                  · right; omega
              case measure => simp [intOf]; omega
            · obtain ⟨hq1, t, ht, ht1, ht2⟩ := hck.resolve_left hqe
              obtain ⟨g9, c9, e9', hg9, hgl9⟩ := owns_at HROW.out (by omega)
              cases e9'
              have z9 : w6.cell? ⟨g9, q, none⟩ = some (.int .i64 t) := by rw [HROW.out.cellAt q (by omega)]; exact ints_get ht
              have zf9 : w6.frozen? ⟨g9, q, none⟩ = false := HROW.out.frozenAt _
              have hqi : ((q : Int) == (nS : Int)) = false := by rw [beq_eq_false_iff_ne]; omega
              have hwt : IntKind.i64.wrap (t + 1) = t + 1 := by rw [IntKind.wrap_i64]; omega
              have hdt : decide (c.tries < t + 1) = false := decide_eq_false (by omega)
              have HTT := hid ht
              clear ht
              go_upto_region 32 with fail
              refine wp_genS ?_
              intro w10 hw10
              have HO10 : Hid (Only (blocks (.slice (some ⟨g9, 0, none⟩) nS sc)) w6 w10) := hid (by
                rw [hw10]
                exact (Only.refl _ _).setCell (by simp [blocks, Value.ownBlock]) _)
              obtain ⟨u1, u2, u3⟩ := bump_at HTT.out
              have HROW10 : Hid (w10.ownsRow w0.heap.size 3 1 (.slice (some ⟨g9, 0, none⟩) nS sc) (bump sK q).length (ints (bump sK q))) := hid (by
                have h1 := (HROW.out.stored q (.int .i64 (t + 1))).1
                rw [ints_set] at h1
                rw [u3, u2, ← HNS.out, hw10]
                exact h1)
              clear u1 u2 u3
              have HK10 := hid (HK6.out.sent (sv' := .slice (some ⟨g9, 0, none⟩) nS sc) HO10.out (fun b hb => .inl hb) HROW10.out)
              have hgb : g9 < wr.heap.size := (HN6.out g9 (by simp [blocks, Value.ownBlock])).1
              have j1'' : w10.cell? ⟨w5.heap.size, 1, none⟩ = some (.int .i64 q) := (HBK.out.only HO10.out (fun hm => by
                have := (HN6.out _ hm).1; omega)).cell 1
              have z10 : w10.cell? ⟨g9, q, none⟩ = some (.int .i64 (t + 1)) := by rw [hw10]; exact World.cell?_setCell_same _ _ _ z9
              have e8' : w10.cell? ⟨W.heap.size, 8, none⟩ = some (.int .i64 c.tries) := HK10.out.box.cell 8
              have hl10 : w5.heap.size < w10.heap.size := Nat.lt_of_lt_of_le hl56 HO10.out.size
              have hlg10 : g9 < w10.heap.size := Nat.lt_of_lt_of_le hgl9 HO10.out.size
              have hlW10 := HK10.out.box.lt
              clear hw10 j0 j1 j2 e0 e1 e2 e3 e4 e5 e6 e7 e8 e9 e10 e11 z9 zf9
              go_wp2_with fail
              go_quiet (fail)
              go_wp2_with fail
              go_roundw
              case rel =>
                refine ⟨k + 1, .slice (some ⟨g9, 0, none⟩) nS sc, by omega, by go_num, rfl, hid ⟨?_, ?_, ?_, ?_⟩⟩
                · rw [HTK.out]
                  exact HK10.out.later ⟨rfl, rfl, rfl, Nat.le_refl _, fun _ _ => rfl⟩
                · have := HO10.out.size
                  show w4.heap.size ≤ w10.heap.size
                  omega
                · exact ((HR6.out.only HO10.out (fun b hb => ⟨by omega, fun hm => by have := (HN6.out _ hm).2; omega⟩)).below (B := w10.heap.size) ⟨rfl, rfl, rfl, Nat.le_refl _, fun _ _ => rfl⟩ (fun b hb => by have := HO10.out.size; omega))
                · intro k hk
                  exact (HN6.out k hk).2
              case measure => simp [intOf]; omega
      have hk1b : (kd == 1) = false := by simpa using hk1
      as_aux_lemma =>
        have XP := hid (ack_any gX gS gB h 0 c x m.n wo HR.out.1.ex HBD.out)
        have XP2 : Hid (Calls Try.prog 12 #[.pointer (some ⟨gX, 0, none⟩), .int .i64 m.n] wo fun e w' => e = .returned (.int .i64 (ackN x m.n : Nat)) ∧ Hid (KR W w0 w' gX gS gB h c (ackX x m.n) s sv)) := hid (XP.out.mono (by
          rintro e w' ⟨rfl, ho, hx⟩
          exact ⟨rfl, hid (HR.out.1.step ho (.inl rfl) hx.out rfl)⟩))
        have HI7 := hid (inv_ack HR.out.2 m.n)
        have hac2 : ((ackX x m.n).acked : Nat) = x.acked + ackN x m.n := rfl
        have hbe : x.acked + ackN x m.n ≤ 1000 := by
          have h1 := HI7.out.sum
          have h2 := HI7.out.bi
          have h3 := HI7.out.lost
          rw [hac2] at h1
          omega
        obtain ⟨nk, hnk⟩ : ∃ n, ackN x m.n = n := ⟨_, rfl⟩
        rw [hnk] at XP2 hac2 hbe
        clear hnk XP
        go_wp2_with fail
        refine XP2.out.mono ?_
        rintro e w4 ⟨rfl, HK7⟩
        clear XP2 d0 d1 d2 d3 d4 d5 d6 d7 d8 d9 d10 d11 d12
        go_wp2_with fail
        go_meet
        case rel => exact ⟨b, ackX x m.n, h, s, sv, rfl, by rw [hac2]; go_num, rfl, hid ⟨HK7.out, HI7.out⟩⟩
    case rest =>
    obtain ⟨b', x', h', s', sv', rfl, rfl, rfl, H7⟩ := hcut
    have HK7 := hid H7.out.1
    have HI7 := hid H7.out.2
    clear d0 d1 d2 d3 d4 d5 d6 d7 d8 d9 d10 d11 d12 H7
    as_aux_lemma =>

      go_upto_region 34 with fail
      obtain ⟨va, hva⟩ : ∃ v : Int, ((x'.wait.length : Nat) : Int) = v := ⟨_, rfl⟩
      obtain ⟨vb, hvb⟩ : ∃ v : Int, ((total x'.way : Nat) : Int) = v := ⟨_, rfl⟩
      obtain ⟨vc, hvc⟩ : ∃ v : Int, ((x'.acked : Nat) : Int) = v := ⟨_, rfl⟩
      obtain ⟨vd, hvd⟩ : ∃ v : Int, x'.lost = v := ⟨_, rfl⟩
      obtain ⟨ve, hve⟩ : ∃ v : Int, ((x'.given : Nat) : Int) = v := ⟨_, rfl⟩
      obtain ⟨mw, hmw⟩ : ∃ mm : Nat, x'.way.length = mm := ⟨_, rfl⟩
      have hsum := HI7.out.sum
      have hbi := HI7.out.bi
      have hlo := HI7.out.lost
      have hokb := HI7.out.ok.buf
      have hroom := HI7.out.room
      have hfew := HI7.out.few
      have hbt := (rfl : (0 : Nat) = 0)
      have hat := (rfl : (0 : Nat) = 0)
      have ha : 0 ≤ va ∧ va ≤ 1000 := by omega
      have hb' : 0 ≤ vb ∧ vb ≤ 1000 := by omega
      have hc' : 0 ≤ vc ∧ vc ≤ 1000 := by omega
      have hd' : 0 ≤ vd ∧ vd ≤ 1000 := by omega
      have he' : 0 ≤ ve ∧ ve ≤ 1000 := by omega
      have hda : decide (c.buf < va) = false := decide_eq_false (by omega)
      have hdf : decide (c.flight < (mw : Int)) = false := decide_eq_false (by omega)
      have XTL : Hid (Calls Try.prog 13 #[.pointer (some ⟨gX, 0, none⟩)] wc fun e w' => e = .returned (.agg #[.int .i64 (((va + vb) + vc) + vd + ve), .int .i64 0, .int .i64 va, .int .i64 vb, .int .i64 vc, .int .i64 vd, .int .i64 ve]) ∧ Below wc.heap.size wc w') := hid ((tally_any gX gS gB h' 0 c (x') wc HK7.out.ex (HI7.out.bd (by omega))).mono (by
        rintro e w' ⟨rfl, hb⟩
        refine ⟨?_, hb⟩
        unfold begunX
        rw [hva, hvb, hvc, hvd, hve]))
      have XSN : Hid (∀ w', Below wc.heap.size wc w' → Calls Try.prog 14 #[.pointer (some ⟨gX, 0, none⟩)] w' fun e w'' => ∃ a cap, e = .returned (.slice a mw cap) ∧ Below wc.heap.size wc w'') := hid (fun w' hb => (sent_any gX gS gB h' 0 c (x') w' (HK7.out.ex.later hb) (HI7.out.bd (by omega))).mono (by
        rintro e w'' ⟨a, cap, rfl, hb2⟩
        rw [hmw]
        exact ⟨a, cap, rfl, hb.trans (hb2.mono hb.size)⟩))
      have HBT : Hid ((b' : Int) = ((va + vb) + vc) + vd + ve) := hid (by omega)
      have HAT : Hid (((x'.acked : Nat) : Int) = vc) := hid (by omega)
      rw [HBT.out, HAT.out]
      have HBG : Hid (((va + vb) + vc) + vd + ve = (b' : Int)) := hid HBT.out.symm
      have HMW := hid hmw
      clear hsum hbi hlo hokb hroom hfew hbt hat hva hvb hvd hve hmw
      have HVC := hid hvc
      clear hvc
      go_wp2_with fail
      refine XTL.out.mono ?_
      rintro e wU ⟨rfl, hbU⟩
      have HBU := hid hbU
      clear hbU XTL
      go_upto_region 35 with fail
      refine wp_genS ?_
      intro wV hwV
      have hbV : Below wU.heap.size wU wV := by rw [hwV]; go_grown
      have hkV : Blk wV wU.heap.size #[.int .i64 (((va + vb) + vc) + vd + ve), .int .i64 0, .int .i64 va, .int .i64 vb, .int .i64 vc, .int .i64 vd, .int .i64 ve] 50 := by rw [hwV]; exact Blk.new _ _ _
      have HBV := hid (HBU.out.trans (hbV.mono HBU.out.size))
      have HKV := hid hkV
      clear hwV hbV hkV HBU
      have KEEP : Hid (∀ w', Below wV.heap.size wV w' → w'.cell? ⟨wU.heap.size, 0, none⟩ = some (.int .i64 (((va + vb) + vc) + vd + ve)) ∧ w'.cell? ⟨wU.heap.size, 2, none⟩ = some (.int .i64 va) ∧ w'.cell? ⟨wU.heap.size, 3, none⟩ = some (.int .i64 vb) ∧ w'.cell? ⟨wU.heap.size, 4, none⟩ = some (.int .i64 vc) ∧ w'.cell? ⟨wU.heap.size, 5, none⟩ = some (.int .i64 vd) ∧ w'.cell? ⟨wU.heap.size, 6, none⟩ = some (.int .i64 ve) ∧ w'.cell? ⟨W.heap.size, 3, none⟩ = some (.int .i64 c.buf) ∧ w'.cell? ⟨W.heap.size, 6, none⟩ = some (.int .i64 c.flight)) := hid (fun w' hb => ⟨(HKV.out.later hb).cell 0, (HKV.out.later hb).cell 2, (HKV.out.later hb).cell 3, (HKV.out.later hb).cell 4, (HKV.out.later hb).cell 5, (HKV.out.later hb).cell 6, (HK7.out.box.later (HBV.out.trans (hb.mono HBV.out.size))).cell 3, (HK7.out.box.later (HBV.out.trans (hb.mono HBV.out.size))).cell 6⟩)
      have XSV : Hid (∀ w', Below wV.heap.size wV w' → Calls Try.prog 14 #[.pointer (some ⟨gX, 0, none⟩)] w' fun e w'' => ∃ a cap, e = .returned (.slice a mw cap) ∧ Below wV.heap.size wV w'') := hid (fun w' hb => by
        have hb1 := HBV.out.trans (hb.mono HBV.out.size)
        refine (sent_any gX gS gB h' 0 c (x') w' (HK7.out.ex.later hb1) (HI7.out.bd (by omega))).mono ?_
        rintro e w'' ⟨a, cap, rfl, hb2⟩
        exact ⟨a, cap, by rw [HMW.out], hb.trans (hb2.mono hb.size)⟩)
      clear XSN
      have hw1 : IntKind.i64.wrap (va + vb) = va + vb := by rw [IntKind.wrap_i64]; omega
      have hw2 : IntKind.i64.wrap (va + vb + vc) = va + vb + vc := by rw [IntKind.wrap_i64]; omega
      have hw3 : IntKind.i64.wrap (va + vb + vc + vd) = va + vb + vc + vd := by rw [IntKind.wrap_i64]; omega
      have hw4 : IntKind.i64.wrap (va + vb + vc + vd + ve) = va + vb + vc + vd + ve := by rw [IntKind.wrap_i64]; omega
      go_wp2_with fail
      refine wp_region_held_drew (S := (fun w' => w'.cell? ⟨wU.heap.size, 0, none⟩ = some (.int .i64 (((va + vb) + vc) + vd + ve)) ∧ w'.cell? ⟨wU.heap.size, 2, none⟩ = some (.int .i64 va) ∧ w'.cell? ⟨wU.heap.size, 3, none⟩ = some (.int .i64 vb) ∧ w'.cell? ⟨wU.heap.size, 4, none⟩ = some (.int .i64 vc) ∧ w'.cell? ⟨wU.heap.size, 5, none⟩ = some (.int .i64 vd) ∧ w'.cell? ⟨wU.heap.size, 6, none⟩ = some (.int .i64 ve) ∧ w'.cell? ⟨W.heap.size, 3, none⟩ = some (.int .i64 c.buf) ∧ w'.cell? ⟨W.heap.size, 6, none⟩ = some (.int .i64 c.flight))) (by kernel_rfl) (by (refine KEEP.out _ ?_; (repeat' (first | assumption | (with_reducible exact Below.refl _ _) | (with_reducible refine Below.drew ?_) | (with_reducible refine Below.alloc ?_ (by first | exact Nat.le_refl _ | (exact Below.size (by assumption)) | (simp; done) | (simp; omega)) _))))) (fun hHeld => ?_)
      refine wpAnyH_take (i := 0) (oi := ⟨_, _, _, _, _, _⟩) (v := ?_) rfl (by kernel_rfl) (by kernel_rfl) (by kernel_rfl) (fun _ _ _ h => h) (Or.inl ⟨by rfl, ?_⟩) hHeld ?_
      rotate_left
      · (intro w hSw; (try dsimp only at hSw); go_simp) <;> with_reducible rfl
      try simp only [Act.put, List.setIfInBounds_toArray, List.set_cons_zero, List.set_cons_succ]
      refine wpAnyH_take (i := 1) (oi := ⟨_, _, _, _, _, _⟩) (v := ?_) rfl (by kernel_rfl) (by kernel_rfl) (by kernel_rfl) (fun _ _ _ h => h) (Or.inl ⟨by rfl, ?_⟩) hHeld ?_
      rotate_left
      · (intro w hSw; (try dsimp only at hSw); go_simp) <;> with_reducible rfl
      try simp only [Act.put, List.setIfInBounds_toArray, List.set_cons_zero, List.set_cons_succ]
      refine wpAnyH_take (i := 2) (oi := ⟨_, _, _, _, _, _⟩) (v := ?_) rfl (by kernel_rfl) (by kernel_rfl) (by kernel_rfl) (fun _ _ _ h => h) (Or.inl ⟨by rfl, ?_⟩) hHeld ?_
      rotate_left
      · (intro w hSw; (try dsimp only at hSw); go_simp) <;> with_reducible rfl
      try simp only [Act.put, List.setIfInBounds_toArray, List.set_cons_zero, List.set_cons_succ]
      refine wpAnyH_take (i := 3) (oi := ⟨_, _, _, _, _, _⟩) (v := ?_) rfl (by kernel_rfl) (by kernel_rfl) (by kernel_rfl) (fun _ _ _ h => h) (Or.inl ⟨by rfl, ?_⟩) hHeld ?_
      rotate_left
      · (intro w hSw; (try dsimp only at hSw); go_simp) <;> with_reducible rfl
      try simp only [Act.put, List.setIfInBounds_toArray, List.set_cons_zero, List.set_cons_succ]
      refine wpAnyH_take (i := 4) (oi := ⟨_, _, _, _, _, _⟩) (v := ?_) rfl (by kernel_rfl) (by kernel_rfl) (by kernel_rfl) (fun _ _ _ h => h) (Or.inl ⟨by rfl, ?_⟩) hHeld ?_
      rotate_left
      · (intro w hSw; (try dsimp only at hSw); go_simp) <;> with_reducible rfl
      try simp only [Act.put, List.setIfInBounds_toArray, List.set_cons_zero, List.set_cons_succ]
      refine wpAnyH_take (i := 5) (oi := ⟨_, _, _, _, _, _⟩) (v := ?_) rfl (by kernel_rfl) (by kernel_rfl) (by kernel_rfl) (fun _ _ _ h => h) (Or.inl ⟨by rfl, ?_⟩) hHeld ?_
      rotate_left
      · (intro w hSw; (try dsimp only at hSw); go_simp) <;> with_reducible rfl
      try simp only [Act.put, List.setIfInBounds_toArray, List.set_cons_zero, List.set_cons_succ]
      refine wpAnyH_take (i := 6) (oi := ⟨_, _, _, _, _, _⟩) (v := ?_) rfl (by kernel_rfl) (by kernel_rfl) (by kernel_rfl) (fun _ _ _ h => h) (Or.inl ⟨by rfl, ?_⟩) hHeld ?_
      rotate_left
      · (intro w hSw; (try dsimp only at hSw); go_simp) <;> with_reducible rfl
      try simp only [Act.put, List.setIfInBounds_toArray, List.set_cons_zero, List.set_cons_succ]
      refine wpAnyH_take (i := 7) (oi := ⟨_, _, _, _, _, _⟩) (v := ?_) rfl (by kernel_rfl) (by kernel_rfl) (by kernel_rfl) (fun _ _ _ h => h) (Or.inl ⟨by rfl, ?_⟩) hHeld ?_
      rotate_left
      · (intro w hSw; (try dsimp only at hSw); go_simp) <;> with_reducible rfl
      try simp only [Act.put, List.setIfInBounds_toArray, List.set_cons_zero, List.set_cons_succ]
      refine wpAnyH_take (i := 8) (oi := ⟨_, _, _, _, _, _⟩) (v := ?_) rfl (by kernel_rfl) (by kernel_rfl) (by kernel_rfl) (fun _ _ _ h => h) (Or.inl ⟨by rfl, ?_⟩) hHeld ?_
      rotate_left
      · (intro w hSw; (try dsimp only at hSw); go_simp) <;> with_reducible rfl
      try simp only [Act.put, List.setIfInBounds_toArray, List.set_cons_zero, List.set_cons_succ]
      refine wpAnyH_take (i := 9) (oi := ⟨_, _, _, _, _, _⟩) (v := ?_) rfl (by kernel_rfl) (by kernel_rfl) (by kernel_rfl) (fun _ _ _ h => h) (Or.inl ⟨by rfl, ?_⟩) hHeld ?_
      rotate_left
      · (intro w hSw; (try dsimp only at hSw); go_simp) <;> with_reducible rfl
      try simp only [Act.put, List.setIfInBounds_toArray, List.set_cons_zero, List.set_cons_succ]
      refine wpAnyH_take (i := 10) (oi := ⟨_, _, _, _, _, _⟩) (v := ?_) rfl (by kernel_rfl) (by kernel_rfl) (by kernel_rfl) (fun _ _ _ h => h) (Or.inl ⟨by rfl, ?_⟩) hHeld ?_
      rotate_left
      · (intro w hSw; (try dsimp only at hSw); go_simp) <;> with_reducible rfl
      try simp only [Act.put, List.setIfInBounds_toArray, List.set_cons_zero, List.set_cons_succ]
      refine wpAnyH_take (i := 11) (oi := ⟨_, _, _, _, _, _⟩) (v := ?_) rfl (by kernel_rfl) (by kernel_rfl) (by kernel_rfl) (fun _ _ _ h => h) (Or.inl ⟨by rfl, ?_⟩) hHeld ?_
      rotate_left
      · (intro w hSw; (try dsimp only at hSw); go_simp) <;> with_reducible rfl
      try simp only [Act.put, List.setIfInBounds_toArray, List.set_cons_zero, List.set_cons_succ]
      refine wpAnyH_take (i := 12) (oi := ⟨_, _, _, _, _, _⟩) (v := ?_) rfl (by kernel_rfl) (by kernel_rfl) (by kernel_rfl) (fun _ _ _ h => h) (Or.inl ⟨by rfl, ?_⟩) hHeld ?_
      rotate_left
      · (intro w hSw; (try dsimp only at hSw); go_simp) <;> with_reducible rfl
      try simp only [Act.put, List.setIfInBounds_toArray, List.set_cons_zero, List.set_cons_succ]
      refine wpAnyH_take (i := 13) (oi := ⟨_, _, _, _, _, _⟩) (v := ?_) rfl (by kernel_rfl) (by kernel_rfl) (by kernel_rfl) (fun _ _ _ h => h) (Or.inl ⟨by rfl, ?_⟩) hHeld ?_
      rotate_left
      · (intro w hSw; (try dsimp only at hSw); go_simp) <;> with_reducible rfl
      try simp only [Act.put, List.setIfInBounds_toArray, List.set_cons_zero, List.set_cons_succ]
      refine wpAnyH_take (i := 14) (oi := ⟨_, _, _, _, _, _⟩) (v := ?_) rfl (by kernel_rfl) (by kernel_rfl) (by kernel_rfl) (fun _ _ _ h => h) (Or.inl ⟨by rfl, ?_⟩) hHeld ?_
      rotate_left
      · (intro w hSw; (try dsimp only at hSw); go_simp) <;> with_reducible rfl
      try simp only [Act.put, List.setIfInBounds_toArray, List.set_cons_zero, List.set_cons_succ]
      refine wpAnyH_take (i := 15) (oi := ⟨_, _, _, _, _, _⟩) (v := ?_) rfl (by kernel_rfl) (by kernel_rfl) (by kernel_rfl) (fun _ _ _ h => h) (Or.inl ⟨by rfl, ?_⟩) hHeld ?_
      rotate_left
      · (intro w hSw; (try dsimp only at hSw); go_simp) <;> with_reducible rfl
      try simp only [Act.put, List.setIfInBounds_toArray, List.set_cons_zero, List.set_cons_succ]
      refine wpAnyH_take (i := 16) (oi := ⟨_, _, _, _, _, _⟩) (v := ?_) rfl (by kernel_rfl) (by kernel_rfl) (by kernel_rfl) (fun _ _ _ h => h) (Or.inl ⟨by rfl, ?_⟩) hHeld ?_
      rotate_left
      · (intro w hSw; (try dsimp only at hSw); go_simp) <;> with_reducible rfl
      try simp only [Act.put, List.setIfInBounds_toArray, List.set_cons_zero, List.set_cons_succ]
      refine wpAnyH_take (i := 17) (oi := ⟨_, _, _, _, _, _⟩) (v := ?_) rfl (by kernel_rfl) (by kernel_rfl) (by kernel_rfl) (fun _ _ _ h => h) (Or.inl ⟨by rfl, ?_⟩) hHeld ?_
      rotate_left
      · (intro w hSw; (try dsimp only at hSw); go_simp) <;> with_reducible rfl
      try simp only [Act.put, List.setIfInBounds_toArray, List.set_cons_zero, List.set_cons_succ]
      refine wpAnyH_take (i := 18) (oi := ⟨_, _, _, _, _, _⟩) (v := ?_) rfl (by kernel_rfl) (by kernel_rfl) (by kernel_rfl) (fun _ _ _ h => h) (Or.inl ⟨by rfl, ?_⟩) hHeld ?_
      rotate_left
      · (intro w hSw; (try dsimp only at hSw); go_simp) <;> with_reducible rfl
      try simp only [Act.put, List.setIfInBounds_toArray, List.set_cons_zero, List.set_cons_succ]
      refine wpAnyH_take (i := 19) (oi := ⟨_, _, _, _, _, _⟩) (v := ?_) rfl (by kernel_rfl) (by kernel_rfl) (by kernel_rfl) (fun _ _ _ h => h) (Or.inl ⟨by rfl, ?_⟩) hHeld ?_
      rotate_left
      · (intro w hSw; (try dsimp only at hSw); go_simp) <;> with_reducible rfl
      try simp only [Act.put, List.setIfInBounds_toArray, List.set_cons_zero, List.set_cons_succ]
      refine wpAnyH_take (i := 20) (oi := ⟨_, _, _, _, _, _⟩) (v := ?_) rfl (by kernel_rfl) (by kernel_rfl) (by kernel_rfl) (fun _ _ _ h => h) (Or.inl ⟨by rfl, ?_⟩) hHeld ?_
      rotate_left
      · (intro w hSw; (try dsimp only at hSw); go_simp) <;> with_reducible rfl
      try simp only [Act.put, List.setIfInBounds_toArray, List.set_cons_zero, List.set_cons_succ]
      refine wpAnyH_take (i := 21) (oi := ⟨_, _, _, _, _, _⟩) (v := ?_) rfl (by kernel_rfl) (by kernel_rfl) (by kernel_rfl) (fun _ _ _ h => h) (Or.inl ⟨by rfl, ?_⟩) hHeld ?_
      rotate_left
      · (intro w hSw; (try dsimp only at hSw); go_simp) <;> with_reducible rfl
      try simp only [Act.put, List.setIfInBounds_toArray, List.set_cons_zero, List.set_cons_succ]
      refine wpAnyH_take (i := 22) (oi := ⟨_, _, _, _, _, _⟩) (v := ?_) rfl (by kernel_rfl) (by kernel_rfl) (by kernel_rfl) (fun _ _ _ h => h) (Or.inl ⟨by rfl, ?_⟩) hHeld ?_
      rotate_left
      · (intro w hSw; (try dsimp only at hSw); go_simp) <;> with_reducible rfl
      try simp only [Act.put, List.setIfInBounds_toArray, List.set_cons_zero, List.set_cons_succ]
      refine wpAnyH_take (i := 23) (oi := ⟨_, _, _, _, _, _⟩) (v := ?_) rfl (by kernel_rfl) (by kernel_rfl) (by kernel_rfl) (fun _ _ _ h => h) (Or.inl ⟨by rfl, ?_⟩) hHeld ?_
      rotate_left
      · (intro w hSw; (try dsimp only at hSw); go_simp) <;> with_reducible rfl
      try simp only [Act.put, List.setIfInBounds_toArray, List.set_cons_zero, List.set_cons_succ]
      refine wpAnyH_take (i := 24) (oi := ⟨_, _, _, _, _, _⟩) (v := ?_) rfl (by kernel_rfl) (by kernel_rfl) (by kernel_rfl) (fun _ _ _ h => h) (Or.inl ⟨by rfl, ?_⟩) hHeld ?_
      rotate_left
      · (intro w hSw; (try dsimp only at hSw); go_simp) <;> with_reducible rfl
      try simp only [Act.put, List.setIfInBounds_toArray, List.set_cons_zero, List.set_cons_succ]
      refine wpAnyH_take (i := 25) (oi := ⟨_, _, _, _, _, _⟩) (v := ?_) rfl (by kernel_rfl) (by kernel_rfl) (by kernel_rfl) (fun _ _ _ h => h) (Or.inl ⟨by rfl, ?_⟩) hHeld ?_
      rotate_left
      · (intro w hSw; (try dsimp only at hSw); go_simp) <;> with_reducible rfl
      try simp only [Act.put, List.setIfInBounds_toArray, List.set_cons_zero, List.set_cons_succ]
      refine wpAnyH_take (i := 26) (oi := ⟨_, _, _, _, _, _⟩) (v := ?_) rfl (by kernel_rfl) (by kernel_rfl) (by kernel_rfl) (fun _ _ _ h => h) (Or.inl ⟨by rfl, ?_⟩) hHeld ?_
      rotate_left
      · (intro w hSw; (try dsimp only at hSw); go_simp) <;> with_reducible rfl
      try simp only [Act.put, List.setIfInBounds_toArray, List.set_cons_zero, List.set_cons_succ]
      refine wpAnyH_take (i := 27) (oi := ⟨_, _, _, _, _, _⟩) (v := ?_) rfl (by kernel_rfl) (by kernel_rfl) (by kernel_rfl) (fun _ _ _ h => h) (Or.inl ⟨by rfl, ?_⟩) hHeld ?_
      rotate_left
      · (intro w hSw; (try dsimp only at hSw); go_simp) <;> with_reducible rfl
      try simp only [Act.put, List.setIfInBounds_toArray, List.set_cons_zero, List.set_cons_succ]
      refine wpAnyH_take (i := 28) (oi := ⟨_, _, _, _, _, _⟩) (v := ?_) rfl (by kernel_rfl) (by kernel_rfl) (by kernel_rfl) (fun _ _ _ h => h) (Or.inl ⟨by rfl, ?_⟩) hHeld ?_
      rotate_left
      · (intro w hSw; (try dsimp only at hSw); go_simp) <;> with_reducible rfl
      try simp only [Act.put, List.setIfInBounds_toArray, List.set_cons_zero, List.set_cons_succ]
      refine wpAnyH_take (i := 29) (oi := ⟨_, _, _, _, _, _⟩) (v := ?_) rfl (by kernel_rfl) (by kernel_rfl) (by kernel_rfl) (fun _ _ _ h => h) (Or.inl ⟨by rfl, ?_⟩) hHeld ?_
      rotate_left
      · (intro w hSw; (try dsimp only at hSw); go_simp) <;> with_reducible rfl
      try simp only [Act.put, List.setIfInBounds_toArray, List.set_cons_zero, List.set_cons_succ]
      refine wpAnyH_take (i := 30) (oi := ⟨_, _, _, _, _, _⟩) (v := ?_) rfl (by kernel_rfl) (by kernel_rfl) (by kernel_rfl) (fun _ _ _ h => h) (Or.inl ⟨by rfl, ?_⟩) hHeld ?_
      rotate_left
      · (intro w hSw; (try dsimp only at hSw); go_simp) <;> with_reducible rfl
      try simp only [Act.put, List.setIfInBounds_toArray, List.set_cons_zero, List.set_cons_succ]
      refine wpAnyH_take (i := 33) (oi := ⟨_, _, _, _, _, _⟩) (v := ?_) rfl (by kernel_rfl) (by kernel_rfl) (by kernel_rfl) (fun _ _ _ h => h) (Or.inl ⟨by rfl, ?_⟩) hHeld ?_
      rotate_left
      · (intro w hSw; (try dsimp only at hSw); go_simp) <;> with_reducible rfl
      try simp only [Act.put, List.setIfInBounds_toArray, List.set_cons_zero, List.set_cons_succ]
      refine wpAnyH_take (i := 34) (oi := ⟨_, _, _, _, _, _⟩) (v := ?_) rfl (by kernel_rfl) (by kernel_rfl) (by kernel_rfl) (fun _ _ _ h => h) (Or.inl ⟨by rfl, ?_⟩) hHeld ?_
      rotate_left
      · (intro w hSw; (try dsimp only at hSw); go_simp) <;> with_reducible rfl
      try simp only [Act.put, List.setIfInBounds_toArray, List.set_cons_zero, List.set_cons_succ]
      refine wpAnyH_ready (rs := [31]) (by kernel_rfl) (by simp) ?_
      refine AllReadyH.cons (o := ⟨_, _, _, _, _, _⟩) rfl (fun K hK => ?_) AllReadyH.nil
      clear hHeld
      go_simp
      go_at_call 14
      refine (XSV.out _ (by first | assumption | exact Below.refl _ _ | exact (Below.refl _ _).drew)).mono ?_
      rintro e wS ⟨aS, cS, rfl, hbS⟩
      refine hK.out _ _ (by (refine KEEP.out _ ?_; (repeat' (first | assumption | (with_reducible exact Below.refl _ _) | (with_reducible refine Below.drew ?_) | (with_reducible refine Below.alloc ?_ (by first | exact Nat.le_refl _ | (exact Below.size (by assumption)) | (simp; done) | (simp; omega)) _))))) (fun hHeld => ?_)
      clear hK K
      try simp only [Act.put, List.setIfInBounds_toArray, List.set_cons_zero, List.set_cons_succ]
      refine wpAnyH_take (i := 32) (oi := ⟨_, _, _, _, _, _⟩) (v := ?_) rfl (by kernel_rfl) (by kernel_rfl) (by kernel_rfl) (fun _ _ _ h => h) (Or.inl ⟨by rfl, ?_⟩) hHeld ?_
      rotate_left
      · (intro w hSw; (try dsimp only at hSw); go_simp) <;> with_reducible rfl
      try simp only [Act.put, List.setIfInBounds_toArray, List.set_cons_zero, List.set_cons_succ]
      refine wpAnyH_take (i := 35) (oi := ⟨_, _, _, _, _, _⟩) (v := ?_) rfl (by kernel_rfl) (by kernel_rfl) (by kernel_rfl) (fun _ _ _ h => h) (Or.inl ⟨by rfl, ?_⟩) hHeld ?_
      rotate_left
      · (intro w hSw; (try dsimp only at hSw); go_simp) <;> with_reducible rfl
      try simp only [Act.put, List.setIfInBounds_toArray, List.set_cons_zero, List.set_cons_succ]
      refine wpAnyH_take (i := 36) (oi := ⟨_, _, _, _, _, _⟩) (v := ?_) rfl (by kernel_rfl) (by kernel_rfl) (by kernel_rfl) (fun _ _ _ h => h) (Or.inl ⟨by rfl, ?_⟩) hHeld ?_
      rotate_left
      · (intro w hSw; (try dsimp only at hSw); go_simp) <;> with_reducible rfl
      try simp only [Act.put, List.setIfInBounds_toArray, List.set_cons_zero, List.set_cons_succ]
      refine wpAnyH_take (i := 37) (oi := ⟨_, _, _, _, _, _⟩) (v := ?_) rfl (by kernel_rfl) (by kernel_rfl) (by kernel_rfl) (fun _ _ _ h => h) (Or.inl ⟨by rfl, ?_⟩) hHeld ?_
      rotate_left
      · (intro w hSw; (try dsimp only at hSw); go_simp) <;> with_reducible rfl
      try simp only [Act.put, List.setIfInBounds_toArray, List.set_cons_zero, List.set_cons_succ]
      refine wpAnyH_take (i := 38) (oi := ⟨_, _, _, _, _, _⟩) (v := ?_) rfl (by kernel_rfl) (by kernel_rfl) (by kernel_rfl) (fun _ _ _ h => h) (Or.inl ⟨by rfl, ?_⟩) hHeld ?_
      rotate_left
      · (intro w hSw; (try dsimp only at hSw); go_simp) <;> with_reducible rfl
      try simp only [Act.put, List.setIfInBounds_toArray, List.set_cons_zero, List.set_cons_succ]
      refine wpAnyH_take (i := 39) (oi := ⟨_, _, _, _, _, _⟩) (v := ?_) rfl (by kernel_rfl) (by kernel_rfl) (by kernel_rfl) (fun _ _ _ h => h) (Or.inl ⟨by rfl, ?_⟩) hHeld ?_
      rotate_left
      · (intro w hSw; (try dsimp only at hSw); go_simp) <;> with_reducible rfl
      try simp only [Act.put, List.setIfInBounds_toArray, List.set_cons_zero, List.set_cons_succ]
      refine wpAnyH_take (i := 40) (oi := ⟨_, _, _, _, _, _⟩) (v := ?_) rfl (by kernel_rfl) (by kernel_rfl) (by kernel_rfl) (fun _ _ _ h => h) (Or.inl ⟨by rfl, ?_⟩) hHeld ?_
      rotate_left
      · (intro w hSw; (try dsimp only at hSw); go_simp) <;> with_reducible rfl
      try simp only [Act.put, List.setIfInBounds_toArray, List.set_cons_zero, List.set_cons_succ]
      refine wpAnyH_take (i := 41) (oi := ⟨_, _, _, _, _, _⟩) (v := ?_) rfl (by kernel_rfl) (by kernel_rfl) (by kernel_rfl) (fun _ _ _ h => h) (Or.inl ⟨by rfl, ?_⟩) hHeld ?_
      rotate_left
      · (intro w hSw; (try dsimp only at hSw); go_simp) <;> with_reducible rfl
      try simp only [Act.put, List.setIfInBounds_toArray, List.set_cons_zero, List.set_cons_succ]
      refine wpAnyH_take (i := 42) (oi := ⟨_, _, _, _, _, _⟩) (v := ?_) rfl (by kernel_rfl) (by kernel_rfl) (by kernel_rfl) (fun _ _ _ h => h) (Or.inl ⟨by rfl, ?_⟩) hHeld ?_
      rotate_left
      · (intro w hSw; (try dsimp only at hSw); go_simp) <;> with_reducible rfl
      try simp only [Act.put, List.setIfInBounds_toArray, List.set_cons_zero, List.set_cons_succ]
      refine wpAnyH_done (by kernel_rfl) ?_ _
      clear hw1 hw2 hw3 hw4
      go_wp2_with fail
      go_roundw
      case rel => exact ⟨i + 1, _, x', h', s', sv', by omega, by go_num, by rw [HBG.out], by rw [← HVC.out], rfl, hid ⟨HK7.out.later (HBV.out.trans (hbS.mono HBV.out.size)), HI7.out⟩⟩
      case measure => simp [intOf]; omega
end C27
end Go.Proofs.Ytcohcanakicmpaa
namespace Go.Proofs.Ytcohcanakicmpaa
set_option maxRecDepth 100000 in
theorem io0 : Try.prog.initOrder.toList = [Char.ofNat 104, Char.ofNat 97, Char.ofNat 114, Char.ofNat 110, Char.ofNat 101, Char.ofNat 115, Char.ofNat 115, Char.ofNat 32, Char.ofNat 100, Char.ofNat 100, Char.ofNat 50, Char.ofNat 54, Char.ofNat 48, Char.ofNat 48, Char.ofNat 50, Char.ofNat 56, Char.ofNat 48, Char.ofNat 99, Char.ofNat 57, Char.ofNat 97, Char.ofNat 100, Char.ofNat 53, Char.ofNat 50, Char.ofNat 56, Char.ofNat 98, Char.ofNat 97, Char.ofNat 52, Char.ofNat 51, Char.ofNat 50, Char.ofNat 52, Char.ofNat 98, Char.ofNat 99, Char.ofNat 101, Char.ofNat 54, Char.ofNat 54, Char.ofNat 57, Char.ofNat 48, Char.ofNat 48, Char.ofNat 102, Char.ofNat 57, Char.ofNat 48, Char.ofNat 51, Char.ofNat 54, Char.ofNat 52, Char.ofNat 51, Char.ofNat 49, Char.ofNat 48, Char.ofNat 101, Char.ofNat 57, Char.ofNat 55, Char.ofNat 98, Char.ofNat 98, Char.ofNat 98, Char.ofNat 102, Char.ofNat 102, Char.ofNat 100, Char.ofNat 54, Char.ofNat 55, Char.ofNat 51, Char.ofNat 56, Char.ofNat 57, Char.ofNat 50, Char.ofNat 51, Char.ofNat 55, Char.ofNat 98, Char.ofNat 49, Char.ofNat 49, Char.ofNat 101, Char.ofNat 49, Char.ofNat 101, Char.ofNat 48, Char.ofNat 54, Char.ofNat 32, Char.ofNat 99, Char.ofNat 117, Char.ofNat 116, Char.ofNat 32, Char.ofNat 97, Char.ofNat 116, Char.ofNat 32, Char.ofNat 112, Char.ofNat 101, Char.ofNat 114, Char.ofNat 105, Char.ofNat 115, Char.ofNat 99, Char.ofNat 111, Char.ofNat 112, Char.ofNat 101, Char.ofNat 47, Char.ofNat 112, Char.ofNat 101, Char.ofNat 114, Char.ofNat 105, Char.ofNat 115, Char.ofNat 99, Char.ofNat 111, Char.ofNat 112, Char.ofNat 101, Char.ofNat 108, Char.ofNat 97, Char.ofNat 119, Char.ofNat 50, Char.ofNat 55, Char.ofNat 46, Char.ofNat 69, Char.ofNat 120, Char.ofNat 112, Char.ofNat 111, Char.ofNat 114, Char.ofNat 116, Char.ofNat 75, Char.ofNat 101, Char.ofNat 101, Char.ofNat 112, Char.ofNat 115, Char.ofNat 32, Char.ofNat 112, Char.ofNat 101, Char.ofNat 114, Char.ofNat 105, Char.ofNat 115, Char.ofNat 99, Char.ofNat 111, Char.ofNat 112, Char.ofNat 101, Char.ofNat 47, Char.ofNat 112, Char.ofNat 101, Char.ofNat 114, Char.ofNat 105, Char.ofNat 115, Char.ofNat 99, Char.ofNat 111, Char.ofNat 112, Char.ofNat 101, Char.ofNat 108, Char.ofNat 97, Char.ofNat 119, Char.ofNat 50, Char.ofNat 55, Char.ofNat 46, Char.ofNat 69, Char.ofNat 120, Char.ofNat 112, Char.ofNat 111, Char.ofNat 114, Char.ofNat 116, Char.ofNat 81, Char.ofNat 117, Char.ofNat 105, Char.ofNat 101, Char.ofNat 116] := String.toList_ofList (l := [Char.ofNat 104, Char.ofNat 97, Char.ofNat 114, Char.ofNat 110, Char.ofNat 101, Char.ofNat 115, Char.ofNat 115, Char.ofNat 32, Char.ofNat 100, Char.ofNat 100, Char.ofNat 50, Char.ofNat 54, Char.ofNat 48, Char.ofNat 48, Char.ofNat 50, Char.ofNat 56, Char.ofNat 48, Char.ofNat 99, Char.ofNat 57, Char.ofNat 97, Char.ofNat 100, Char.ofNat 53, Char.ofNat 50, Char.ofNat 56, Char.ofNat 98, Char.ofNat 97, Char.ofNat 52, Char.ofNat 51, Char.ofNat 50, Char.ofNat 52, Char.ofNat 98, Char.ofNat 99, Char.ofNat 101, Char.ofNat 54, Char.ofNat 54, Char.ofNat 57, Char.ofNat 48, Char.ofNat 48, Char.ofNat 102, Char.ofNat 57, Char.ofNat 48, Char.ofNat 51, Char.ofNat 54, Char.ofNat 52, Char.ofNat 51, Char.ofNat 49, Char.ofNat 48, Char.ofNat 101, Char.ofNat 57, Char.ofNat 55, Char.ofNat 98, Char.ofNat 98, Char.ofNat 98, Char.ofNat 102, Char.ofNat 102, Char.ofNat 100, Char.ofNat 54, Char.ofNat 55, Char.ofNat 51, Char.ofNat 56, Char.ofNat 57, Char.ofNat 50, Char.ofNat 51, Char.ofNat 55, Char.ofNat 98, Char.ofNat 49, Char.ofNat 49, Char.ofNat 101, Char.ofNat 49, Char.ofNat 101, Char.ofNat 48, Char.ofNat 54, Char.ofNat 32, Char.ofNat 99, Char.ofNat 117, Char.ofNat 116, Char.ofNat 32, Char.ofNat 97, Char.ofNat 116, Char.ofNat 32, Char.ofNat 112, Char.ofNat 101, Char.ofNat 114, Char.ofNat 105, Char.ofNat 115, Char.ofNat 99, Char.ofNat 111, Char.ofNat 112, Char.ofNat 101, Char.ofNat 47, Char.ofNat 112, Char.ofNat 101, Char.ofNat 114, Char.ofNat 105, Char.ofNat 115, Char.ofNat 99, Char.ofNat 111, Char.ofNat 112, Char.ofNat 101, Char.ofNat 108, Char.ofNat 97, Char.ofNat 119, Char.ofNat 50, Char.ofNat 55, Char.ofNat 46, Char.ofNat 69, Char.ofNat 120, Char.ofNat 112, Char.ofNat 111, Char.ofNat 114, Char.ofNat 116, Char.ofNat 75, Char.ofNat 101, Char.ofNat 101, Char.ofNat 112, Char.ofNat 115, Char.ofNat 32, Char.ofNat 112, Char.ofNat 101, Char.ofNat 114, Char.ofNat 105, Char.ofNat 115, Char.ofNat 99, Char.ofNat 111, Char.ofNat 112, Char.ofNat 101, Char.ofNat 47, Char.ofNat 112, Char.ofNat 101, Char.ofNat 114, Char.ofNat 105, Char.ofNat 115, Char.ofNat 99, Char.ofNat 111, Char.ofNat 112, Char.ofNat 101, Char.ofNat 108, Char.ofNat 97, Char.ofNat 119, Char.ofNat 50, Char.ofNat 55, Char.ofNat 46, Char.ofNat 69, Char.ofNat 120, Char.ofNat 112, Char.ofNat 111, Char.ofNat 114, Char.ofNat 116, Char.ofNat 81, Char.ofNat 117, Char.ofNat 105, Char.ofNat 101, Char.ofNat 116])
def ioSigns : List Char := [Char.ofNat 104, Char.ofNat 97, Char.ofNat 114, Char.ofNat 110, Char.ofNat 101, Char.ofNat 115, Char.ofNat 115, Char.ofNat 32, Char.ofNat 100, Char.ofNat 100, Char.ofNat 50, Char.ofNat 54, Char.ofNat 48, Char.ofNat 48, Char.ofNat 50, Char.ofNat 56, Char.ofNat 48, Char.ofNat 99, Char.ofNat 57, Char.ofNat 97, Char.ofNat 100, Char.ofNat 53, Char.ofNat 50, Char.ofNat 56, Char.ofNat 98, Char.ofNat 97, Char.ofNat 52, Char.ofNat 51, Char.ofNat 50, Char.ofNat 52, Char.ofNat 98, Char.ofNat 99, Char.ofNat 101, Char.ofNat 54, Char.ofNat 54, Char.ofNat 57, Char.ofNat 48, Char.ofNat 48, Char.ofNat 102, Char.ofNat 57, Char.ofNat 48, Char.ofNat 51, Char.ofNat 54, Char.ofNat 52, Char.ofNat 51, Char.ofNat 49, Char.ofNat 48, Char.ofNat 101, Char.ofNat 57, Char.ofNat 55, Char.ofNat 98, Char.ofNat 98, Char.ofNat 98, Char.ofNat 102, Char.ofNat 102, Char.ofNat 100, Char.ofNat 54, Char.ofNat 55, Char.ofNat 51, Char.ofNat 56, Char.ofNat 57, Char.ofNat 50, Char.ofNat 51, Char.ofNat 55, Char.ofNat 98, Char.ofNat 49, Char.ofNat 49, Char.ofNat 101, Char.ofNat 49, Char.ofNat 101, Char.ofNat 48, Char.ofNat 54, Char.ofNat 32, Char.ofNat 99, Char.ofNat 117, Char.ofNat 116, Char.ofNat 32, Char.ofNat 97, Char.ofNat 116, Char.ofNat 32, Char.ofNat 112, Char.ofNat 101, Char.ofNat 114, Char.ofNat 105, Char.ofNat 115, Char.ofNat 99, Char.ofNat 111, Char.ofNat 112, Char.ofNat 101, Char.ofNat 47, Char.ofNat 112, Char.ofNat 101, Char.ofNat 114, Char.ofNat 105, Char.ofNat 115, Char.ofNat 99, Char.ofNat 111, Char.ofNat 112, Char.ofNat 101, Char.ofNat 108, Char.ofNat 97, Char.ofNat 119, Char.ofNat 50, Char.ofNat 55, Char.ofNat 46, Char.ofNat 69, Char.ofNat 120, Char.ofNat 112, Char.ofNat 111, Char.ofNat 114, Char.ofNat 116, Char.ofNat 75, Char.ofNat 101, Char.ofNat 101, Char.ofNat 112, Char.ofNat 115, Char.ofNat 32, Char.ofNat 112, Char.ofNat 101, Char.ofNat 114, Char.ofNat 105, Char.ofNat 115, Char.ofNat 99, Char.ofNat 111, Char.ofNat 112, Char.ofNat 101, Char.ofNat 47, Char.ofNat 112, Char.ofNat 101, Char.ofNat 114, Char.ofNat 105, Char.ofNat 115, Char.ofNat 99, Char.ofNat 111, Char.ofNat 112, Char.ofNat 101, Char.ofNat 108, Char.ofNat 97, Char.ofNat 119, Char.ofNat 50, Char.ofNat 55, Char.ofNat 46, Char.ofNat 69, Char.ofNat 120, Char.ofNat 112, Char.ofNat 111, Char.ofNat 114, Char.ofNat 116, Char.ofNat 81, Char.ofNat 117, Char.ofNat 105, Char.ofNat 101, Char.ofNat 116]
theorem io : Try.pinned.checked.prog.initOrder.toList = ioSigns := io0
theorem io_words : wordsSigns ioSigns = [[Char.ofNat 104, Char.ofNat 97, Char.ofNat 114, Char.ofNat 110, Char.ofNat 101, Char.ofNat 115, Char.ofNat 115], [Char.ofNat 100, Char.ofNat 100, Char.ofNat 50, Char.ofNat 54, Char.ofNat 48, Char.ofNat 48, Char.ofNat 50, Char.ofNat 56, Char.ofNat 48, Char.ofNat 99, Char.ofNat 57, Char.ofNat 97, Char.ofNat 100, Char.ofNat 53, Char.ofNat 50, Char.ofNat 56, Char.ofNat 98, Char.ofNat 97, Char.ofNat 52, Char.ofNat 51, Char.ofNat 50, Char.ofNat 52, Char.ofNat 98, Char.ofNat 99, Char.ofNat 101, Char.ofNat 54, Char.ofNat 54, Char.ofNat 57, Char.ofNat 48, Char.ofNat 48, Char.ofNat 102, Char.ofNat 57, Char.ofNat 48, Char.ofNat 51, Char.ofNat 54, Char.ofNat 52, Char.ofNat 51, Char.ofNat 49, Char.ofNat 48, Char.ofNat 101, Char.ofNat 57, Char.ofNat 55, Char.ofNat 98, Char.ofNat 98, Char.ofNat 98, Char.ofNat 102, Char.ofNat 102, Char.ofNat 100, Char.ofNat 54, Char.ofNat 55, Char.ofNat 51, Char.ofNat 56, Char.ofNat 57, Char.ofNat 50, Char.ofNat 51, Char.ofNat 55, Char.ofNat 98, Char.ofNat 49, Char.ofNat 49, Char.ofNat 101, Char.ofNat 49, Char.ofNat 101, Char.ofNat 48, Char.ofNat 54], [Char.ofNat 99, Char.ofNat 117, Char.ofNat 116], [Char.ofNat 97, Char.ofNat 116], [Char.ofNat 112, Char.ofNat 101, Char.ofNat 114, Char.ofNat 105, Char.ofNat 115, Char.ofNat 99, Char.ofNat 111, Char.ofNat 112, Char.ofNat 101, Char.ofNat 47, Char.ofNat 112, Char.ofNat 101, Char.ofNat 114, Char.ofNat 105, Char.ofNat 115, Char.ofNat 99, Char.ofNat 111, Char.ofNat 112, Char.ofNat 101, Char.ofNat 108, Char.ofNat 97, Char.ofNat 119, Char.ofNat 50, Char.ofNat 55, Char.ofNat 46, Char.ofNat 69, Char.ofNat 120, Char.ofNat 112, Char.ofNat 111, Char.ofNat 114, Char.ofNat 116, Char.ofNat 75, Char.ofNat 101, Char.ofNat 101, Char.ofNat 112, Char.ofNat 115], [Char.ofNat 112, Char.ofNat 101, Char.ofNat 114, Char.ofNat 105, Char.ofNat 115, Char.ofNat 99, Char.ofNat 111, Char.ofNat 112, Char.ofNat 101, Char.ofNat 47, Char.ofNat 112, Char.ofNat 101, Char.ofNat 114, Char.ofNat 105, Char.ofNat 115, Char.ofNat 99, Char.ofNat 111, Char.ofNat 112, Char.ofNat 101, Char.ofNat 108, Char.ofNat 97, Char.ofNat 119, Char.ofNat 50, Char.ofNat 55, Char.ofNat 46, Char.ofNat 69, Char.ofNat 120, Char.ofNat 112, Char.ofNat 111, Char.ofNat 114, Char.ofNat 116, Char.ofNat 81, Char.ofNat 117, Char.ofNat 105, Char.ofNat 101, Char.ofNat 116]] := by kernel_rfl
def ioRest : List (List Char) := [[Char.ofNat 97, Char.ofNat 116], [Char.ofNat 112, Char.ofNat 101, Char.ofNat 114, Char.ofNat 105, Char.ofNat 115, Char.ofNat 99, Char.ofNat 111, Char.ofNat 112, Char.ofNat 101, Char.ofNat 47, Char.ofNat 112, Char.ofNat 101, Char.ofNat 114, Char.ofNat 105, Char.ofNat 115, Char.ofNat 99, Char.ofNat 111, Char.ofNat 112, Char.ofNat 101, Char.ofNat 108, Char.ofNat 97, Char.ofNat 119, Char.ofNat 50, Char.ofNat 55, Char.ofNat 46, Char.ofNat 69, Char.ofNat 120, Char.ofNat 112, Char.ofNat 111, Char.ofNat 114, Char.ofNat 116, Char.ofNat 75, Char.ofNat 101, Char.ofNat 101, Char.ofNat 112, Char.ofNat 115], [Char.ofNat 112, Char.ofNat 101, Char.ofNat 114, Char.ofNat 105, Char.ofNat 115, Char.ofNat 99, Char.ofNat 111, Char.ofNat 112, Char.ofNat 101, Char.ofNat 47, Char.ofNat 112, Char.ofNat 101, Char.ofNat 114, Char.ofNat 105, Char.ofNat 115, Char.ofNat 99, Char.ofNat 111, Char.ofNat 112, Char.ofNat 101, Char.ofNat 108, Char.ofNat 97, Char.ofNat 119, Char.ofNat 50, Char.ofNat 55, Char.ofNat 46, Char.ofNat 69, Char.ofNat 120, Char.ofNat 112, Char.ofNat 111, Char.ofNat 114, Char.ofNat 116, Char.ofNat 81, Char.ofNat 117, Char.ofNat 105, Char.ofNat 101, Char.ofNat 116]]
theorem io_behind : behindMainWord [[Char.ofNat 104, Char.ofNat 97, Char.ofNat 114, Char.ofNat 110, Char.ofNat 101, Char.ofNat 115, Char.ofNat 115], [Char.ofNat 100, Char.ofNat 100, Char.ofNat 50, Char.ofNat 54, Char.ofNat 48, Char.ofNat 48, Char.ofNat 50, Char.ofNat 56, Char.ofNat 48, Char.ofNat 99, Char.ofNat 57, Char.ofNat 97, Char.ofNat 100, Char.ofNat 53, Char.ofNat 50, Char.ofNat 56, Char.ofNat 98, Char.ofNat 97, Char.ofNat 52, Char.ofNat 51, Char.ofNat 50, Char.ofNat 52, Char.ofNat 98, Char.ofNat 99, Char.ofNat 101, Char.ofNat 54, Char.ofNat 54, Char.ofNat 57, Char.ofNat 48, Char.ofNat 48, Char.ofNat 102, Char.ofNat 57, Char.ofNat 48, Char.ofNat 51, Char.ofNat 54, Char.ofNat 52, Char.ofNat 51, Char.ofNat 49, Char.ofNat 48, Char.ofNat 101, Char.ofNat 57, Char.ofNat 55, Char.ofNat 98, Char.ofNat 98, Char.ofNat 98, Char.ofNat 102, Char.ofNat 102, Char.ofNat 100, Char.ofNat 54, Char.ofNat 55, Char.ofNat 51, Char.ofNat 56, Char.ofNat 57, Char.ofNat 50, Char.ofNat 51, Char.ofNat 55, Char.ofNat 98, Char.ofNat 49, Char.ofNat 49, Char.ofNat 101, Char.ofNat 49, Char.ofNat 101, Char.ofNat 48, Char.ofNat 54], [Char.ofNat 99, Char.ofNat 117, Char.ofNat 116], [Char.ofNat 97, Char.ofNat 116], [Char.ofNat 112, Char.ofNat 101, Char.ofNat 114, Char.ofNat 105, Char.ofNat 115, Char.ofNat 99, Char.ofNat 111, Char.ofNat 112, Char.ofNat 101, Char.ofNat 47, Char.ofNat 112, Char.ofNat 101, Char.ofNat 114, Char.ofNat 105, Char.ofNat 115, Char.ofNat 99, Char.ofNat 111, Char.ofNat 112, Char.ofNat 101, Char.ofNat 108, Char.ofNat 97, Char.ofNat 119, Char.ofNat 50, Char.ofNat 55, Char.ofNat 46, Char.ofNat 69, Char.ofNat 120, Char.ofNat 112, Char.ofNat 111, Char.ofNat 114, Char.ofNat 116, Char.ofNat 75, Char.ofNat 101, Char.ofNat 101, Char.ofNat 112, Char.ofNat 115], [Char.ofNat 112, Char.ofNat 101, Char.ofNat 114, Char.ofNat 105, Char.ofNat 115, Char.ofNat 99, Char.ofNat 111, Char.ofNat 112, Char.ofNat 101, Char.ofNat 47, Char.ofNat 112, Char.ofNat 101, Char.ofNat 114, Char.ofNat 105, Char.ofNat 115, Char.ofNat 99, Char.ofNat 111, Char.ofNat 112, Char.ofNat 101, Char.ofNat 108, Char.ofNat 97, Char.ofNat 119, Char.ofNat 50, Char.ofNat 55, Char.ofNat 46, Char.ofNat 69, Char.ofNat 120, Char.ofNat 112, Char.ofNat 111, Char.ofNat 114, Char.ofNat 116, Char.ofNat 81, Char.ofNat 117, Char.ofNat 105, Char.ofNat 101, Char.ofNat 116]] = [Char.ofNat 99, Char.ofNat 117, Char.ofNat 116] :: ioRest := by kernel_rfl
theorem io_gc : (([Char.ofNat 99, Char.ofNat 117, Char.ofNat 116] : List Char) == "gc".toList || ([Char.ofNat 99, Char.ofNat 117, Char.ofNat 116] : List Char) == "spec".toList) = false := by kernel_rfl
theorem io_cut : (([Char.ofNat 99, Char.ofNat 117, Char.ofNat 116] : List Char) == "cut".toList) = true := by kernel_rfl
theorem io_h : behindMainWord (wordsSigns Try.pinned.checked.prog.initOrder.toList) = [Char.ofNat 99, Char.ofNat 117, Char.ofNat 116] :: ioRest :=
  (congrArg (fun x => behindMainWord (wordsSigns x)) io).trans ((congrArg behindMainWord io_words).trans io_behind)
theorem io_lays : Try.pinned.checked.prog.laysLater = false := by kernel_rfl
theorem io_refl : Try.pinned.checked.prog.bearsReflect = false := by kernel_rfl
theorem io_rows : Try.pinned.checked.prog.doorRows = [] := by kernel_rfl
theorem io_strip : stripLifts liftWords ([Char.ofNat 99, Char.ofNat 117, Char.ofNat 116] :: ioRest) = ([], [Char.ofNat 99, Char.ofNat 117, Char.ofNat 116] :: ioRest) := by kernel_rfl
theorem make_of (P : Program) (c : List Char) (rest : List (List Char)) (h : behindMainWord (wordsSigns P.initOrder.toList) = c :: rest) (h1 : (c == "gc".toList || c == "spec".toList) = false) (h2 : (c == "cut".toList) = true) : P.make = some .cut := by
  unfold Program.make
  rw [h]
  simp only [h1, h2, Bool.true_or, if_true, Bool.false_eq_true, if_false]
theorem enter_of (P : Program) (c : List Char) (rest : List (List Char)) (h : behindMainWord (wordsSigns P.initOrder.toList) = c :: rest) (h2 : (c == "cut".toList) = true) (hl : P.laysLater = false) (hr : P.bearsReflect = false) (hd : P.doorRows = []) (hs : stripLifts liftWords (c :: rest) = ([], c :: rest)) : P.mayEnter = true := by
  have e2 : (some c == some "cut".toList) = true := h2
  unfold Program.mayEnter Program.doorFits
  rw [h]
  simp only [hs, hl, hr, hd, List.head?_cons, e2]
  simp
theorem final_of (P : Program) (c : List Char) (rest : List (List Char)) (h : behindMainWord (wordsSigns P.initOrder.toList) = c :: rest) (h2 : (c == "carried".toList) = false) (hs : stripLifts liftWords (c :: rest) = ([], c :: rest)) : P.liftsFinal = false := by
  have e : ¬ c = "carried".toList := by simpa using h2
  unfold Program.liftsFinal Program.headLifts
  rw [h]
  simp only [hs]
  simp
  intro e2
  exact absurd e2 (by simpa using e)
theorem io_make : Try.pinned.checked.prog.make = some .cut := make_of _ _ _ io_h io_gc io_cut
theorem io_enter : Try.pinned.checked.prog.mayEnter = true := enter_of _ _ _ io_h io_cut io_lays io_refl io_rows io_strip
theorem io_final : Try.pinned.checked.prog.liftsFinal = false := final_of _ _ _ io_h (by kernel_rfl) io_strip
end Go.Proofs.Ytcohcanakicmpaa
