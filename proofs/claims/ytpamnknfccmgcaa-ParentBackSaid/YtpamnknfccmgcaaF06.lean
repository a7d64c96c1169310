/- Walks of layer 6 (ids): which trace a text is, by the code; no condition. -/
import Derived.Test.YtpamnknfccmgcaaE06
namespace Go.Proofs.Ytpamnknfccmgcaa
open Go.RowKit Go.Peri
namespace C06
open C01

theorem half_val (s : ByteArray) (W : World) (a : Nat) (b : Bool) (hs : s.size ≤ 1000000000000000) (hr : halfR s = (a, b)) :
    Calls Try.prog 190 #[.string s] W fun e w' => e = .returned (.tuple #[.int .u64 a, .bool b]) ∧ W = w' := by
  have := half_any s W hs; rw [hr] at this; exact this
theorem zero_val (hi lo : Nat) (r : Bool) (W : World) (h1 : hi < 18446744073709551616) (h2 : lo < 18446744073709551616) (hr : zeroR hi lo = r) :
    Calls Try.prog 135 #[.agg #[.int .u64 hi, .int .u64 lo]] W fun e w' => e = .returned (.bool r) ∧ Below W.heap.size W w' := by
  have := zero_any hi lo W h1 h2; rw [hr] at this; exact this

set_option maxRecDepth 100000 in
set_option maxHeartbeats 4000000 in
theorem of_ok (s : ByteArray) (a c : Nat) (r : Bool) (W : World) (h32 : s.size = 32) (H1 : Hid (halfR (s.extract 0 16) = (a, true))) (H2 : Hid (halfR (s.extract 16 32) = (c, true)))
    (HA : Hid (a < 18446744073709551616)) (HC : Hid (c < 18446744073709551616)) (HR : Hid (zeroR a c = r)) (p : Nat × Nat) (q : Int) (hr : Hid ((p, q) = if r = true then ((0, 0), 11) else ((a, c), 0))) :
    Calls Try.prog 127 #[.string s] W fun e w' => e = .returned (.tuple #[tr p, .int .i64 q]) ∧ Below W.heap.size W w' := by
  have x1 : (s.extract 0 16).size = 16 := by rw [ByteArray.size_extract, h32]; rfl
  have x2 : (s.extract 16 32).size = 16 := by rw [ByteArray.size_extract, h32]; rfl
  go_enter Try.func127, Try.ntmps127
  go_wp2_with fail
  refine (half_val _ _ _ _ (by rw [x1]; omega) H1.out).mono ?_
  rintro e w1 ⟨rfl, rfl⟩
  go_wp2_with fail
  refine (half_val _ _ _ _ (by rw [x2]; omega) H2.out).mono ?_
  rintro e w1 ⟨rfl, rfl⟩
  go_wp2_with fail
  refine (zero_val a c r _ HA.out HC.out HR.out).mono ?_
  rintro e w2 ⟨rfl, hb2⟩
  have k0 : w2.cell? ⟨W.heap.size, 0, none⟩ = some (.int .u64 0) := by rw [hb2.cell (by simp <;> omega)]; simp [go_sem]
  have k1 : w2.cell? ⟨W.heap.size, 1, none⟩ = some (.int .u64 0) := by rw [hb2.cell (by simp <;> omega)]; simp [go_sem]
  have f0 : w2.frozen? ⟨W.heap.size, 0, none⟩ = false := by rw [hb2.frozen (by simp <;> omega)]; simp [go_sem]
  have f1 : w2.frozen? ⟨W.heap.size, 1, none⟩ = false := by rw [hb2.frozen (by simp <;> omega)]; simp [go_sem]
  have j0 : w2.cell? ⟨W.heap.size + 1, 0, none⟩ = some (.int .u64 a) := by rw [hb2.cell (by simp <;> omega)]; simp [go_sem]
  have j1 : w2.cell? ⟨W.heap.size + 1, 1, none⟩ = some (.int .u64 c) := by rw [hb2.cell (by simp <;> omega)]; simp [go_sem]
  have HB : Hid (Below W.heap.size W w2) := by
    show Below _ _ _
    refine Below.trans ?_ (hb2.mono (by simp <;> omega))
    go_grown
  clear hb2
  cases r
  · go_wp2_with fail
    refine bodyPost_ret (by simp [results, Try.results127, go_sem, k0, k1]; try rfl) rfl ?_
    have := hr.out
    simp at this
    obtain ⟨rfl, rfl⟩ := this
    exact ⟨rfl, (HB.out.setCell (Nat.le_refl _) _).setCell (Nat.le_refl _) _⟩
  · go_wp2_with fail
    refine bodyPost_ret (by simp [results, Try.results127, go_sem, k0, k1]; try rfl) rfl ?_
    have := hr.out
    simp at this
    obtain ⟨rfl, rfl⟩ := this
    exact ⟨rfl, (HB.out.setCell (Nat.le_refl _) _).setCell (Nat.le_refl _) _⟩

end C06
end Go.Proofs.Ytpamnknfccmgcaa
