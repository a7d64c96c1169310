/- Walks of layer 26 (flight): Ack; no condition. -/
import Derived.Test.YtdamnbldimompaaD26
namespace Go.Peri
theorem wp_genF {P : Program} {c : Code} {Q : Exit → Act → World → Prop} {a : Act} {w : World} (h : ∀ w2, w2 = w → c.wp P Q a w2) : c.wp P Q a w := h w rfl
namespace Sq
theorem rest_core (l : List Sq) (q : Int) : (rest l q).map Sq.core = rest (l.map Sq.core) q := by
  induction l with
  | nil => rfl
  | cons x l ih =>
    unfold rest at *
    rw [List.map_cons, List.filter_cons, List.filter_cons, show (core x).seq = x.seq from rfl]
    cases (x.seq == q)
    · simp only [Bool.not_false, if_true, List.map_cons, ih]
    · simp only [Bool.not_true, Bool.false_eq_true, if_false, ih]
theorem total_core (l : List Sq) : total (l.map Sq.core) = total l := by
  unfold total
  rw [List.map_map]
  rfl
theorem total_of_core {l m : List Sq} (h : l.map Sq.core = m.map Sq.core) : total l = total m := by
  rw [← total_core l, ← total_core m, h]
theorem sp_of_core {l : List Sq} {cl : List Sq} (h : l.map Sq.core = cl) {N : Nat} (hs : ∀ k ∈ cl, k.sp.length ≤ N) : ∀ x ∈ l, x.sp.length ≤ N := by
  intro x hx
  subst h
  exact hs x.core (List.mem_map_of_mem hx)
end Sq
end Go.Peri
namespace Go.Proofs.Ytdamnbldimompaa
open Go.RowKit Go.Peri
open Gen (flat_set set_mid get_mid map_take_snoc owns_at owns_num owns_le owns_below owns_form)
namespace C26
open Sq (rest ixQ atQ total)
/-- Batches, wherever memory has grown. -/
def FR (W : World) (cl : List Sq) (a : Option Addr) (n cap : Nat) (w' : World) : Prop :=
  ∃ l1 : List Sq, l1.length = n ∧ l1.map Sq.core = cl ∧ Below W.heap.size W w' ∧ RowsOf (· < w'.heap.size) Sq.enc 5 w' (.slice a n cap) l1 ∧ ∀ x ∈ l1, x.At (· < w'.heap.size) w'
theorem rows_len {p : Nat → Prop} {w : World} {a : Option Addr} {n cap : Nat} {l : List Sq} (hn : l.length = n) (h : RowsOf p Sq.enc 5 w (.slice a l.length cap) l) : RowsOf p Sq.enc 5 w (.slice a n cap) l := by rw [← hn]; exact h
theorem FR.len {W : World} {kl : List Sq} {a : Option Addr} {n cap : Nat} {w : World} (h : FR W kl a n cap w) : n = kl.length := by
  obtain ⟨l1, h1, h2, _⟩ := h
  rw [← h2, List.length_map, h1]
theorem FR.below {W : World} {kl : List Sq} {a : Option Addr} {n cap : Nat} {w : World} (h : FR W kl a n cap w) : Below W.heap.size W w := by
  obtain ⟨_, _, _, h, _⟩ := h
  exact h
theorem FR.self {W : World} {kl : List Sq} {a : Option Addr} {n cap : Nat} {w : World} (h : FR W kl a n cap w) : FR w kl a n cap w := by
  obtain ⟨l1, h1, h2, _, h4, h5⟩ := h
  exact ⟨l1, h1, h2, Below.refl _ _, h4, h5⟩
theorem FR.later {W : World} {kl : List Sq} {a : Option Addr} {n cap : Nat} {w w' : World} (h : FR W kl a n cap w) (hb : Below w.heap.size w w') : FR w' kl a n cap w' := by
  obtain ⟨l1, h1, h2, _, h4, h5⟩ := h
  exact ⟨l1, h1, h2, Below.refl _ _, (h4.below hb (fun _ h => h)).imp (fun b h => Nat.lt_of_lt_of_le h hb.size), fun x hx => ((h5 x hx).below hb (fun _ h => h)).imp (fun b h => Nat.lt_of_lt_of_le h hb.size)⟩
theorem FR.nil (w : World) : FR w [] none 0 0 w := ⟨[], rfl, rfl, Below.refl _ _, RowsOf.nil _ _ _ _, by simp⟩
def AckQ (W : World) (cl : List Sq) (q : Int) (v : Value) (w' : World) : Prop := ∃ a n cap, v = .tuple #[.slice a n cap, .int .i64 ((total cl : Int) - (total (rest cl q) : Int))] ∧ FR W (rest cl q) a n cap w'
theorem blocks_len (a : Option Addr) (n m cap : Nat) : blocks (.slice a n cap) = blocks (.slice a m cap) := by cases a <;> rfl
theorem ack_fin {W w0 w1 w2 w4 : World} {a1 : Option Addr} {cap1 n : Nat} {l1 : List Sq} {cl : List Sq} {q : Int} (hb0 : Below W.heap.size W w0) (hb1 : Below w0.heap.size w0 w1) (hc1 : l1.map Sq.core = cl) (hcop : Cop w0.heap.size w1 (.slice a1 n cap1) l1) (hown0 : ∀ b, b ∈ blocks (.slice a1 n cap1) → w0.heap.size ≤ b)
    (ho2 : Only (blocks (.slice a1 (rest l1 q).length cap1)) w1 w2) (hown2 : w2.ownsRow w0.heap.size 62 5 (.slice a1 (rest l1 q).length cap1) (rest l1 q).length ((rest l1 q).flatMap Sq.enc)) (hb4 : Below w2.heap.size w2 w4) :
    AckQ W cl q (.tuple #[.slice a1 (rest l1 q).length cap1, .int .i64 ((total cl : Int) - (total (rest l1 q) : Int))]) w4 := by
  have hb01 := hb0.trans (hb1.mono hb0.size)
  have hb2 : Below W.heap.size W w2 := hb01.trans (ho2.below hb01.size (fun b hb => Nat.le_trans hb0.size (hown0 b (by rw [blocks_len a1 n (rest l1 q).length cap1]; exact hb))))
  refine ⟨a1, (rest l1 q).length, cap1, ?_, rest l1 q, rfl, ?_, hb2.trans (hb4.mono hb2.size), ?_, ?_⟩
  · rw [← hc1, ← Sq.rest_core, Sq.total_core (rest l1 q)]
  · rw [← hc1, Sq.rest_core]
  · exact ((RowsOf.of_owns Sq.enc_length hown2).below (B := w2.heap.size) hb4 (fun b h => h.2)).imp (fun b h => Nat.lt_of_lt_of_le h.2 hb4.size)
  · intro x hx
    have hxm : x ∈ l1 := (List.mem_filter.1 hx).1
    have hk : OwnK w0.heap.size w2 x := (hcop.own x hxm).keep ho2 (by rw [blocks_len a1 (rest l1 q).length n cap1]; exact hcop.far x hxm)
    have hr : x.At (· < w2.heap.size) w2 := RowsOf.imp (RowsOf.of_owns Sp.enc_length hk) (fun b hb => hb.2)
    exact (hr.below hb4 (fun _ h => h)).imp (fun b h => Nat.lt_of_lt_of_le h hb4.size)
set_option maxRecDepth 100000 in
set_option maxHeartbeats 4000000 in
theorem ack_any (a : Option Addr) (cap : Nat) (l : List Sq) (q : Int) (W : World) (h : RowsOf (· < W.heap.size) Sq.enc 5 W (.slice a l.length cap) l) (hl : l.length ≤ 1000000) (ha : ∀ x ∈ l, x.At (· < W.heap.size) W) (hps : ∀ x ∈ l, x.sp.length ≤ 1000000) :
    Calls Try.prog 19 #[.slice a l.length cap, .int .i64 q] W (Ret (AckQ W (l.map Sq.core) q)) := by
  have HH := hid h
  have HA := hid ha
  have HPS := hid hps
  clear h ha hps
  go_enter Try.func19, Try.ntmps19
  go_upto_region 1 with fail
  refine wp_genF ?_
  intro w0 hw0
  have hb0 : Below W.heap.size W w0 := by rw [hw0]; go_grown
  have hk0 : Blk w0 W.heap.size #[.int .i64 q] 3 := by rw [hw0]; exact Blk.new _ _ _
  have hs0 : W.heap.size < w0.heap.size := by rw [hw0]; simp
  clear hw0
  have HB0 := hid hb0
  have HK0 := hid hk0
  have HC := hid (copied_any (p := (· < W.heap.size)) (.slice a l.length cap) l w0 (HH.out.below hb0 (fun _ h => h)) (fun b hb => Nat.lt_of_lt_of_le hb hb0.size) hl (fun x hx => ((HA.out x hx).below hb0 (fun _ h => h)).imp (fun b hb => Nat.lt_of_lt_of_le hb hb0.size)) HPS.out)
  clear hb0 hk0
  go_wp2_with fail
  refine HC.out.mono ?_
  rintro e w1 ⟨v1, rfl, l1, hc1, hb1, hown, hcop⟩
  have hl1 : l1.length = l.length := by
    have := congrArg List.length hc1
    simpa using this
  obtain ⟨a1, cap1, rfl⟩ := owns_form hown
  have HD := hid (delete_any w0.heap.size a1 cap1 l1 q W.heap.size w1 (by rw [hl1]; exact hown) (by omega) (Nat.lt_of_lt_of_le hs0 hb1.size) hs0 ((HK0.out.later hb1).cell 0))
  rw [hl1] at HD
  have HB1 := hid hb1
  have HC1 := hid hc1
  have HCP := hid hcop
  have HO0 := hid (fun b hb => (owns_bd hown b hb).1)
  have HL1 := hid hl1
  clear hc1 hb1 hown hcop HC hl1
  go_wp2_with fail
  refine HD.out.mono ?_
  rintro e w2 ⟨rfl, ho2, hown2⟩
  have hfin := hid (fun w4 (hb4 : Below w2.heap.size w2 w4) => ack_fin (q := q) HB0.out HB1.out HC1.out HCP.out HO0.out ho2 hown2.out hb4)
  rw [Sq.total_core] at hfin
  have hb01 := HB0.out.trans (HB1.out.mono HB0.out.size)
  have hb2 : Below W.heap.size W w2 := hb01.trans (ho2.below hb01.size (fun b hb => Nat.le_trans HB0.out.size (HO0.out b (by rw [blocks_len a1 l.length (rest l1 q).length cap1]; exact hb))))
  have hrps : ∀ x ∈ rest l1 q, x.sp.length ≤ 1000000 := fun x hx => Sq.sp_of_core HC1.out (N := 1000000) (fun k hk => by
    obtain ⟨y, hy, rfl⟩ := List.mem_map.1 hk
    exact HPS.out y hy) x ((List.mem_filter.1 hx).1)
  have hrl : (rest l1 q).length ≤ 1000000 := Nat.le_trans (List.length_filter_le _ _) (by rw [HL1.out]; exact hl)
  have X1 := hid (spans_any (p := (· < W.heap.size)) (.slice a l.length cap) l w2 (HH.out.below hb2 (fun _ h => h)) (fun b hb => Nat.lt_of_lt_of_le hb hb2.size) hl HPS.out)
  have X2 := hid (fun w3 (hb3 : Below w2.heap.size w2 w3) => spans_any (p := fun b => w0.heap.size ≤ b ∧ b < w2.heap.size) (.slice a1 (rest l1 q).length cap1) (rest l1 q) w3 ((RowsOf.of_owns Sq.enc_length hown2.out).below hb3 (fun b h => h.2)) (fun b hb => Nat.lt_of_lt_of_le hb.2 hb3.size) hrl hrps)
  have ht1 := Sq.total_le HPS.out
  have ht2 := Sq.total_le hrps
  clear ho2 hown2 hb01 hb2 hrps HD HH HA HPS HC1 HCP HO0 HL1 HB0 HB1 HK0
  generalize total l = T1 at *
  generalize total (rest l1 q) = T2 at *
  generalize (rest l1 q).length = n2 at *
  have hw : IntKind.i64.wrap ((T1 : Int) - (T2 : Int)) = (T1 : Int) - (T2 : Int) := by rw [IntKind.wrap_i64]; omega
  go_wp2_with fail
  refine X1.out.mono ?_
  rintro e w3 ⟨rfl, hb3⟩
  have X3 := hid (X2.out _ hb3)
  have HB3 := hid hb3
  clear hb3 X1 X2
  go_wp2_with fail
  refine X3.out.mono ?_
  rintro e w4 ⟨rfl, hb4⟩
  have HF := hid (hfin.out w4 (HB3.out.trans (hb4.mono HB3.out.size)))
  clear hb4 X3 hfin HB3
  go_wp2_with fail
  go_ret2
  exact ⟨_, rfl, HF.out⟩
theorem ack_of {W : World} {cl : List Sq} {a : Option Addr} {n cap : Nat} {w : World} (h : FR W cl a n cap w) (q : Int) (hl : cl.length ≤ 1000) (hs : ∀ k ∈ cl, k.sp.length ≤ 1000000) :
    Calls Try.prog 19 #[.slice a n cap, .int .i64 q] w (Ret (AckQ w cl q)) := by
  obtain ⟨l1, h1, h2, _, h4, h5⟩ := h
  have hl1 : l1.length = cl.length := by rw [← h2, List.length_map]
  subst h1
  have hps := Sq.sp_of_core h2 hs
  rw [← h2]
  exact ack_any a cap l1 q w h4 (by omega) h5 hps
theorem spans_of {W : World} {cl : List Sq} {a : Option Addr} {n cap : Nat} {w : World} (h : FR W cl a n cap w) (hl : cl.length ≤ 1000) (hs : ∀ k ∈ cl, k.sp.length ≤ 1000000) :
    Calls Try.prog 21 #[.slice a n cap] w fun e w' => e = .returned (.int .i64 (total cl : Nat)) ∧ Below w.heap.size w w' := by
  obtain ⟨l1, h1, h2, _, h4, h5⟩ := h
  have hl1 : l1.length = cl.length := by rw [← h2, List.length_map]
  have hps := Sq.sp_of_core h2 hs
  rw [← h2, Sq.total_core]
  exact spans_any _ l1 w h4 (fun _ h => h) (by omega) hps
end C26
end Go.Proofs.Ytdamnbldimompaa
