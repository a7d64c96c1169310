/- Walks of layer 25 (buffer): two buffers side by side; no condition. -/
import Derived.Test.YtefaegoajjcfjaaH25
import Derived.Test.YtefaegoajjcfjaaP25
namespace Go.Peri
open Go.RowKit
theorem drewL {B : Nat} {a w : World} (h : Below B a.drew w) : Below B a w := ⟨h.os, h.tape, h.output, h.size, h.block⟩
end Go.Peri
namespace Go.Proofs.Ytefaegoajjcfjaa
open Go.RowKit Go.Peri
namespace C25

theorem BufIs.only {S : List Nat} {w w' : World} {g : Nat} {h : Option Nat} {room : Nat} {l : List Sp} {lost : Int} (hb : BufIs w g h room l lost) (ho : Only S w w') (hs : ∀ k, k ∈ own g h → k ∉ S) : BufIs w' g h room l lost := by
  obtain ⟨v, h1, h2, h3, h4⟩ := hb
  refine ⟨v, h1, h2.only ho (hs g (by simp [own])), ?_, h4⟩
  obtain ⟨q1, q2⟩ := h3
  refine ⟨q1, q2.imp id ?_⟩
  rintro ⟨k, cp, cur, e, q3, q4, q5⟩
  refine ⟨k, cp, cur, e, q3, (ho.block k (Array.getElem?_eq_some_iff.1 q4).1 (hs k ?_)).trans q4, q5⟩
  rw [← h1, e]
  simp [own, Value.ownBlock]

/-- Two buffers, their blocks unlike, from B on and below U. -/
def Pair (B U : Nat) (g1 g2 : Nat) (room : Nat) (p q : List Sp × Int) (w : World) : Prop :=
  ∃ h1 h2, BufIs w g1 h1 room p.1 p.2 ∧ BufIs w g2 h2 room q.1 q.2 ∧ (∀ k, k ∈ own g1 h1 → k ∉ own g2 h2) ∧ (∀ k, k ∈ own g1 h1 ∨ k ∈ own g2 h2 → B ≤ k ∧ k < U) ∧ U ≤ w.heap.size
theorem Pair.swap {B U g1 g2 room : Nat} {p q : List Sp × Int} {w : World} (h : Pair B U g1 g2 room p q w) : Pair B U g2 g1 room q p w := by
  obtain ⟨h1, h2, a, b, c, d, e⟩ := h
  exact ⟨h2, h1, b, a, fun k hk hk2 => c k hk2 hk, fun k hk => d k hk.symm, e⟩
theorem Pair.below {B U M g1 g2 room : Nat} {p q : List Sp × Int} {w w' : World} (h : Pair B U g1 g2 room p q w) (hb : Below M w w') (hm : U ≤ M) : Pair B U g1 g2 room p q w' := by
  obtain ⟨h1, h2, a, b, c, d, e⟩ := h
  have ho : Only ((List.range w.heap.size).filter (fun k => decide (M ≤ k))) w w' :=
    ⟨hb.os, hb.tape, hb.output, hb.size, fun k hk hs => hb.block k (by
      rcases Nat.lt_or_ge k M with h | h
      · exact h
      · exact absurd (List.mem_filter.2 ⟨List.mem_range.2 hk, by simpa using h⟩) hs)⟩
  refine ⟨h1, h2, a.only ho (fun k hk hs => ?_), b.only ho (fun k hk hs => ?_), c, d, Nat.le_trans e hb.size⟩
  · have := (d k (.inl hk)).2
    have h9 := (List.mem_filter.1 hs).2
    simp at h9
    omega
  · have := (d k (.inr hk)).2
    have h9 := (List.mem_filter.1 hs).2
    simp at h9
    omega
theorem pair_put1 {B U g1 g2 room : Nat} {p q : List Sp × Int} (s : Sp) (w : World) (h : Pair B U g1 g2 room p q w) :
    Calls Try.prog 53 #[.pointer (some ⟨g1, 0, none⟩), .agg #[.int .u64 s.hi, .int .u64 s.lo, .int .u64 s.id, .int .u64 s.up, .string s.name, .int .i64 s.status, .int .i64 s.seq, .int .i64 s.kids, .bool s.shadow, .int .i64 s.start, .int .i64 s.stop]] w fun e w' =>
      e = .returned (.bool (decide (p.1.length < room))) ∧ Below B w w' ∧ ∃ U', Pair B U' g1 g2 room (putR room p s) q w' := by
  obtain ⟨h1, h2, a, b, c, d, e⟩ := h
  have hBw : B ≤ w.heap.size := by have := d g1 (.inl (by simp [own])); omega
  refine (put_any g1 h1 room p.1 p.2 s w a).mono ?_
  rintro e w' ⟨rfl, ho, h', hm, hb'⟩
  refine ⟨rfl, ho.below hBw (fun k hk => (d k (.inl hk)).1), w'.heap.size, h', h2, hb', b.only ho (fun k hk hs => c k hs hk), ?_, ?_, Nat.le_refl _⟩
  · intro k hk hk2
    have hU := (d k (.inr hk2)).2
    simp only [own, List.mem_cons] at hk
    rcases hk with rfl | hk
    · exact c _ (by simp [own]) hk2
    · rcases hm with rfl | ⟨b0, rfl, hb0⟩
      · exact c _ (by simp only [own, List.mem_cons]; exact .inr hk) hk2
      · simp at hk; omega
  · intro k hk
    rcases hk with hk | hk
    · refine ⟨?_, hb'.lt k hk⟩
      simp only [own, List.mem_cons] at hk
      rcases hk with rfl | hk
      · exact (d _ (.inl (by simp [own]))).1
      · rcases hm with rfl | ⟨b0, rfl, hb0⟩
        · exact (d _ (.inl (by simp only [own, List.mem_cons]; exact .inr hk))).1
        · simp at hk; omega
    · have := d k (.inr hk)
      have := ho.size
      omega
theorem pair_put2 {B U g1 g2 room : Nat} {p q : List Sp × Int} (s : Sp) (w : World) (h : Pair B U g1 g2 room p q w) :
    Calls Try.prog 53 #[.pointer (some ⟨g2, 0, none⟩), .agg #[.int .u64 s.hi, .int .u64 s.lo, .int .u64 s.id, .int .u64 s.up, .string s.name, .int .i64 s.status, .int .i64 s.seq, .int .i64 s.kids, .bool s.shadow, .int .i64 s.start, .int .i64 s.stop]] w fun e w' =>
      e = .returned (.bool (decide (q.1.length < room))) ∧ Below B w w' ∧ ∃ U', Pair B U' g1 g2 room p (putR room q s) w' := by
  refine (pair_put1 s w h.swap).mono ?_
  rintro e w' ⟨rfl, hb, U', hp⟩
  exact ⟨rfl, hb, U', hp.swap⟩
theorem pair_take1 {B U g1 g2 room : Nat} {p q : List Sp × Int} (n : Int) (j : Nat) (w : World) (h : Pair B U g1 g2 room p q w) (hj : takeN n p.1 = j) :
    Calls Try.prog 51 #[.pointer (some ⟨g1, 0, none⟩), .int .i64 n] w fun e w' =>
      ∃ a cap, e = .returned (.slice a (p.1.take j).length cap) ∧ Below B w w' ∧ Pair B U g1 g2 room (p.1.drop j, p.2) q w' ∧ Hid (w'.ownsRow w.heap.size 79 11 (.slice a (p.1.take j).length cap) (p.1.take j).length ((p.1.take j).flatMap Sp.enc)) ∧ ∃ S, Only S w w' ∧ ∀ k, k ∈ S → k < U := by
  obtain ⟨h1, h2, a, b, c, d, e⟩ := h
  subst hj
  have hBw : B ≤ w.heap.size := by have := d g1 (.inl (by simp [own])); omega
  refine (take_any g1 h1 room p.1 p.2 n w a).mono ?_
  rintro e w' ⟨a1, cap1, rfl, ho, hb', hown⟩
  exact ⟨a1, cap1, rfl, ho.below hBw (fun k hk => (d k (.inl hk)).1), ⟨h1, h2, hb', b.only ho (fun k hk hs => c k hs hk), c, d, Nat.le_trans e ho.size⟩, hown, _, ho, fun k hk => (d k (.inl hk)).2⟩
theorem pair_take2 {B U g1 g2 room : Nat} {p q : List Sp × Int} (n : Int) (j : Nat) (w : World) (h : Pair B U g1 g2 room p q w) (hj : takeN n q.1 = j) :
    Calls Try.prog 51 #[.pointer (some ⟨g2, 0, none⟩), .int .i64 n] w fun e w' =>
      ∃ a cap, e = .returned (.slice a (q.1.take j).length cap) ∧ Below B w w' ∧ Pair B U g1 g2 room p (q.1.drop j, q.2) w' ∧ Hid (w'.ownsRow w.heap.size 79 11 (.slice a (q.1.take j).length cap) (q.1.take j).length ((q.1.take j).flatMap Sp.enc)) ∧ ∃ S, Only S w w' ∧ ∀ k, k ∈ S → k < U := by
  refine (pair_take1 n j w h.swap hj).mono ?_
  rintro e w' ⟨a1, cap1, rfl, hb, hp, hr⟩
  exact ⟨a1, cap1, rfl, hb, hp.swap, hr⟩
theorem pair_all1 {B U g1 g2 room : Nat} {p q : List Sp × Int} (w : World) (h : Pair B U g1 g2 room p q w) :
    Calls Try.prog 54 #[.pointer (some ⟨g1, 0, none⟩)] w fun e w' => ∃ a cap, e = .returned (.slice a p.1.length cap) ∧ Below w.heap.size w w' ∧ Hid (RowsOf (fun b => w.heap.size ≤ b ∧ b < w'.heap.size) Sp.enc 11 w' (.slice a p.1.length cap) p.1) ∧ Pair B U g1 g2 room p q w' := by
  have h0 := h
  obtain ⟨h1, h2, a, b, c, d, e⟩ := h
  refine (all_any g1 h1 room p.1 p.2 w a).mono ?_
  rintro e w' ⟨a1, cap1, rfl, hb, hr⟩
  exact ⟨a1, cap1, rfl, hb, hr, h0.below hb e⟩
theorem pair_all2 {B U g1 g2 room : Nat} {p q : List Sp × Int} (w : World) (h : Pair B U g1 g2 room p q w) :
    Calls Try.prog 54 #[.pointer (some ⟨g2, 0, none⟩)] w fun e w' => ∃ a cap, e = .returned (.slice a q.1.length cap) ∧ Below w.heap.size w w' ∧ Hid (RowsOf (fun b => w.heap.size ≤ b ∧ b < w'.heap.size) Sp.enc 11 w' (.slice a q.1.length cap) q.1) ∧ Pair B U g1 g2 room p q w' := by
  refine (pair_all1 w h.swap).mono ?_
  rintro e w' ⟨a1, cap1, rfl, hb, hr, hp⟩
  exact ⟨a1, cap1, rfl, hb, hr, hp.swap⟩
def putsR (room : Nat) (l : List Sp) : List Sp × Int := l.foldl (putR room) ([], 0)
theorem putsR_snoc (room : Nat) (l : List Sp) (s : Sp) : putsR room (l ++ [s]) = putR room (putsR room l) s := by simp [putsR]
theorem putsR_len (room : Nat) : ∀ l : List Sp, (putsR room l).1.length ≤ room := by
  suffices h : ∀ (l : List Sp) (p : List Sp × Int), p.1.length ≤ room → (l.foldl (putR room) p).1.length ≤ room from fun l => h l _ (by simp)
  intro l
  induction l with
  | nil => exact fun p hp => hp
  | cons s l ih =>
    intro p hp
    refine ih _ ?_
    unfold putR
    split
    · simp; omega
    · exact hp
end C25
end Go.Proofs.Ytefaegoajjcfjaa
