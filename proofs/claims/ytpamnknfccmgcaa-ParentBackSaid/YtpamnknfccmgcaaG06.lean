/- Walks of layer 6 (ids): which trace a text is, by the code, whatever it is; no condition. -/
import Derived.Test.YtpamnknfccmgcaaF06
namespace Go.Proofs.Ytpamnknfccmgcaa
open Go.RowKit Go.Peri
namespace C06
open C01

set_option maxRecDepth 100000 in
theorem of_short0 (s : ByteArray) (a c : Nat) (d : Bool) (h : (s.size : Int) ≤ 16) (W : World) (hs : s.size ≤ 1000000000000000) (H1 : Hid (halfR (s) = (a, false))) (H2 : Hid (halfR (ByteArray.empty) = (c, d))) :
    Calls Try.prog 127 #[.string s] W fun e w' => e = .returned (.tuple #[tr (0, 0), .int .i64 3]) ∧ Below W.heap.size W w' := by
  have x1 : (s).size ≤ 1000000000000000 := by exact hs
  have x2 : (ByteArray.empty).size ≤ 1000000000000000 := by decide
  go_enter Try.func127, Try.ntmps127
  go_wp2_with fail
  refine (half_val _ _ _ _ x1 H1.out).mono ?_
  rintro e w1 ⟨rfl, rfl⟩
  go_wp2_with fail
  refine (half_val _ _ _ _ x2 H2.out).mono ?_
  rintro e w1 ⟨rfl, rfl⟩
  go_wp2_with fail
  refine bodyPost_ret (by simp [results, Try.results127, go_sem]; try rfl) rfl ?_
  exact ⟨rfl, by go_grown⟩

set_option maxRecDepth 100000 in
theorem of_short1 (s : ByteArray) (a c : Nat) (h : (s.size : Int) ≤ 16) (W : World) (hs : s.size ≤ 1000000000000000) (H1 : Hid (halfR (s) = (a, true))) (H2 : Hid (halfR (ByteArray.empty) = (c, false))) :
    Calls Try.prog 127 #[.string s] W fun e w' => e = .returned (.tuple #[tr (0, 0), .int .i64 3]) ∧ Below W.heap.size W w' := by
  have x1 : (s).size ≤ 1000000000000000 := by exact hs
  have x2 : (ByteArray.empty).size ≤ 1000000000000000 := by decide
  go_enter Try.func127, Try.ntmps127
  go_wp2_with fail
  refine (half_val _ _ _ _ x1 H1.out).mono ?_
  rintro e w1 ⟨rfl, rfl⟩
  go_wp2_with fail
  refine (half_val _ _ _ _ x2 H2.out).mono ?_
  rintro e w1 ⟨rfl, rfl⟩
  go_wp2_with fail
  refine bodyPost_ret (by simp [results, Try.results127, go_sem]; try rfl) rfl ?_
  exact ⟨rfl, by go_grown⟩

set_option maxRecDepth 100000 in
theorem of_high (s : ByteArray) (a c : Nat) (d : Bool) (h : ¬ (s.size : Int) ≤ 16) (W : World) (hs : s.size ≤ 1000000000000000) (H1 : Hid (halfR (s.extract 0 16) = (a, false))) (H2 : Hid (halfR (s.extract 16 s.size) = (c, d))) :
    Calls Try.prog 127 #[.string s] W fun e w' => e = .returned (.tuple #[tr (0, 0), .int .i64 3]) ∧ Below W.heap.size W w' := by
  have x1 : (s.extract 0 16).size ≤ 1000000000000000 := by rw [ByteArray.size_extract]; omega
  have x2 : (s.extract 16 s.size).size ≤ 1000000000000000 := by rw [ByteArray.size_extract]; omega
  have g : 16 ≤ s.size := by omega
  go_enter Try.func127, Try.ntmps127
  go_wp2_with fail
  refine (half_val _ _ _ _ x1 H1.out).mono ?_
  rintro e w1 ⟨rfl, rfl⟩
  go_wp2_with fail
  refine (half_val _ _ _ _ x2 H2.out).mono ?_
  rintro e w1 ⟨rfl, rfl⟩
  go_wp2_with fail
  refine bodyPost_ret (by simp [results, Try.results127, go_sem]; try rfl) rfl ?_
  exact ⟨rfl, by go_grown⟩

set_option maxRecDepth 100000 in
theorem of_low (s : ByteArray) (a c : Nat) (h : ¬ (s.size : Int) ≤ 16) (W : World) (hs : s.size ≤ 1000000000000000) (H1 : Hid (halfR (s.extract 0 16) = (a, true))) (H2 : Hid (halfR (s.extract 16 s.size) = (c, false))) :
    Calls Try.prog 127 #[.string s] W fun e w' => e = .returned (.tuple #[tr (0, 0), .int .i64 3]) ∧ Below W.heap.size W w' := by
  have x1 : (s.extract 0 16).size ≤ 1000000000000000 := by rw [ByteArray.size_extract]; omega
  have x2 : (s.extract 16 s.size).size ≤ 1000000000000000 := by rw [ByteArray.size_extract]; omega
  have g : 16 ≤ s.size := by omega
  go_enter Try.func127, Try.ntmps127
  go_wp2_with fail
  refine (half_val _ _ _ _ x1 H1.out).mono ?_
  rintro e w1 ⟨rfl, rfl⟩
  go_wp2_with fail
  refine (half_val _ _ _ _ x2 H2.out).mono ?_
  rintro e w1 ⟨rfl, rfl⟩
  go_wp2_with fail
  refine bodyPost_ret (by simp [results, Try.results127, go_sem]; try rfl) rfl ?_
  exact ⟨rfl, by go_grown⟩

theorem halfR_size (s : ByteArray) (h : s.size ≠ 16) : halfR s = ((unhexR s).1, false) := by unfold halfR; simp [h]
theorem halfR_16 (s : ByteArray) (h : s.size = 16) : halfR s = ((unhexR s).1, decide ((unhexR s).2 = 0)) := by
  unfold halfR; simp [h]; by_cases g : (unhexR s).2 = 0 <;> simp [g]
theorem of_any (s : ByteArray) (W : World) (hs : s.size ≤ 1000000000000000) :
    Calls Try.prog 127 #[.string s] W fun e w' => e = .returned (.tuple #[tr (ofR s).1, .int .i64 (ofR s).2]) ∧ Below W.heap.size W w' := by
  by_cases h16 : (s.size : Int) ≤ 16
  · have hr : ofR s = ((0, 0), 3) := by unfold ofR; rw [if_neg (fun h => by have := h.1; omega)]
    have e2 : halfR ByteArray.empty = ((unhexR ByteArray.empty).1, false) := halfR_size _ (by decide)
    rw [hr]
    obtain ⟨a, b, h1⟩ : ∃ a b, halfR s = (a, b) := ⟨_, _, rfl⟩
    cases b
    · exact of_short0 s _ _ _ h16 W hs h1 e2
    · exact of_short1 s _ _ h16 W hs h1 e2
  have x1 : (s.extract 0 16).size = 16 := by rw [ByteArray.size_extract]; omega
  by_cases hb : (unhexR (s.extract 0 16)).2 = 0
  · have e1 : halfR (s.extract 0 16) = ((unhexR (s.extract 0 16)).1, true) := by rw [halfR_16 _ x1]; simp [hb]
    by_cases h32 : s.size = 32
    · have x2 : (s.extract 16 32).size = 16 := by rw [ByteArray.size_extract]; omega
      by_cases hd : (unhexR (s.extract 16 32)).2 = 0
      · have e2 : halfR (s.extract 16 32) = ((unhexR (s.extract 16 32)).1, true) := by rw [halfR_16 _ x2]; simp [hd]
        refine of_ok s _ _ _ W h32 e1 e2 (unhexR_lt _) (unhexR_lt _) rfl (ofR s).1 (ofR s).2 ?_
        show _ = _
        unfold ofR zeroR
        rw [if_pos ⟨h32, hb, hd⟩]
        by_cases hz : (unhexR (s.extract 0 16)).1 = 0 ∧ (unhexR (s.extract 16 32)).1 = 0
        · rw [if_pos hz, if_pos (by simpa using hz)]
        · rw [if_neg hz, if_neg (by simpa using hz)]
      · have hr : ofR s = ((0, 0), 3) := by unfold ofR; rw [if_neg (fun h => hd h.2.2)]
        have e2 : halfR (s.extract 16 s.size) = ((unhexR (s.extract 16 32)).1, false) := by rw [h32, halfR_16 _ x2]; simp [hd]
        rw [hr]
        exact of_low s _ _ h16 W hs e1 e2
    · have hr : ofR s = ((0, 0), 3) := by unfold ofR; rw [if_neg (fun h => h32 h.1)]
      rw [hr]
      exact of_low s _ _ h16 W hs e1 (halfR_size _ (by rw [ByteArray.size_extract]; omega))
  · have hr : ofR s = ((0, 0), 3) := by unfold ofR; rw [if_neg (fun h => hb h.2.1)]
    have e1 : halfR (s.extract 0 16) = ((unhexR (s.extract 0 16)).1, false) := by rw [halfR_16 _ x1]; simp [hb]
    rw [hr]
    exact of_high s _ _ (halfR (s.extract 16 s.size)).2 h16 W hs e1 rfl

end C06
end Go.Proofs.Ytpamnknfccmgcaa
