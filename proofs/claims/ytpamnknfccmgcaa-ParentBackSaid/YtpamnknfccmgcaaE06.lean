/- Walks of layer 6 (ids): which trace a text is; no condition. -/
import Derived.Test.YtpamnknfccmgcaaD06
namespace Go.Proofs.Ytpamnknfccmgcaa
open Go.RowKit Go.Peri
namespace C06
open C01

def ofR (s : ByteArray) : (Nat × Nat) × Int :=
  if s.size = 32 ∧ (unhexR (s.extract 0 16)).2 = 0 ∧ (unhexR (s.extract 16 32)).2 = 0 then
    (if (unhexR (s.extract 0 16)).1 = 0 ∧ (unhexR (s.extract 16 32)).1 = 0 then ((0, 0), 11) else (((unhexR (s.extract 0 16)).1, (unhexR (s.extract 16 32)).1), 0))
  else ((0, 0), 3)
theorem unhexR_lt (s : ByteArray) : (unhexR s).1 < 18446744073709551616 := by
  by_cases h : (unhexR s).2 = 0
  · exact (hex_back s _ (by rw [← h])).2
  · unfold unhexR at h ⊢
    split
    · rename_i g; rw [if_pos g] at h; exact absurd rfl h
    · exact (by decide : 0 < 18446744073709551616)
def tr (p : Nat × Nat) : Value := .agg #[.int .u64 (p.1 : Nat), .int .u64 (p.2 : Nat)]

set_option maxRecDepth 100000 in
set_option maxHeartbeats 4000000 in
theorem rof_any (s : ByteArray) (W : World) :
    Calls Try.prog 132 #[.string s] W fun e w' => e = .returned (.tuple #[tr (ofR s).1, .int .i64 (ofR s).2]) ∧ Below W.heap.size W w' := by
  by_cases h32 : s.size = 32
  · obtain ⟨a, b, h1⟩ : ∃ a b, unhexR (s.extract 0 16) = (a, b) := ⟨_, _, rfl⟩
    obtain ⟨c, d, h2⟩ : ∃ a b, unhexR (s.extract 16 32) = (a, b) := ⟨_, _, rfl⟩
    have hq : ofR s = if s.size = 32 ∧ b = 0 ∧ d = 0 then (if a = 0 ∧ c = 0 then ((0, 0), 11) else ((a, c), 0)) else ((0, 0), 3) := by unfold ofR; rw [h1, h2]
    have x1 : (s.extract 0 16).size = 16 := by rw [ByteArray.size_extract, h32]; rfl
    have x2 : (s.extract 16 32).size = 16 := by rw [ByteArray.size_extract, h32]; rfl
    have H1 := hid h1
    have H2 := hid h2
    have h32' : ((s.size : Int) == 32) = true := by simp [h32]
    clear h1 h2
    by_cases hb : b = 0
    · by_cases hd : d = 0
      · subst hb; subst hd
        by_cases ha : a = 0
        · by_cases hc : c = 0
          · subst ha; subst hc
            have hr : Hid (ofR s = ((0, 0), 11)) := by show _ = _; rw [hq, if_pos ⟨h32, rfl, rfl⟩, if_pos ⟨rfl, rfl⟩]
            clear hq
            go_enter Try.func132, Try.ntmps132
            go_wp2_with fail
            refine (runhex_val _ _ _ _ (by rw [x1]; omega) H1.out).mono ?_
            rintro e w1 ⟨rfl, rfl⟩
            go_wp2_with fail
            refine (runhex_val _ _ _ _ (by rw [x2]; omega) H2.out).mono ?_
            rintro e w1 ⟨rfl, rfl⟩
            go_wp2_with fail
            refine bodyPost_ret (by simp [results, Try.results132, go_sem]; try rfl) rfl ?_
            exact ⟨by rw [hr.out]; rfl, by go_grown⟩
          · have hr : Hid (ofR s = ((a, c), 0)) := by show _ = _; rw [hq, if_pos ⟨h32, rfl, rfl⟩, if_neg (fun h => hc h.2)]
            clear hq
            subst ha
            go_enter Try.func132, Try.ntmps132
            go_wp2_with fail
            refine (runhex_val _ _ _ _ (by rw [x1]; omega) H1.out).mono ?_
            rintro e w1 ⟨rfl, rfl⟩
            go_wp2_with fail
            refine (runhex_val _ _ _ _ (by rw [x2]; omega) H2.out).mono ?_
            rintro e w1 ⟨rfl, rfl⟩
            go_wp2_with fail
            refine bodyPost_ret (by simp [results, Try.results132, go_sem]; try rfl) rfl ?_
            exact ⟨by rw [hr.out]; rfl, by go_grown⟩
        · have hr : Hid (ofR s = ((a, c), 0)) := by show _ = _; rw [hq, if_pos ⟨h32, rfl, rfl⟩, if_neg (fun h => ha h.1)]
          clear hq
          go_enter Try.func132, Try.ntmps132
          go_wp2_with fail
          refine (runhex_val _ _ _ _ (by rw [x1]; omega) H1.out).mono ?_
          rintro e w1 ⟨rfl, rfl⟩
          go_wp2_with fail
          refine (runhex_val _ _ _ _ (by rw [x2]; omega) H2.out).mono ?_
          rintro e w1 ⟨rfl, rfl⟩
          go_wp2_with fail
          refine bodyPost_ret (by simp [results, Try.results132, go_sem]; try rfl) rfl ?_
          exact ⟨by rw [hr.out]; rfl, by go_grown⟩
      · have hr : Hid (ofR s = ((0, 0), 3)) := by show _ = _; rw [hq, if_neg (fun h => hd h.2.2)]
        clear hq
        subst hb
        go_enter Try.func132, Try.ntmps132
        go_wp2_with fail
        refine (runhex_val _ _ _ _ (by rw [x1]; omega) H1.out).mono ?_
        rintro e w1 ⟨rfl, rfl⟩
        go_wp2_with fail
        refine (runhex_val _ _ _ _ (by rw [x2]; omega) H2.out).mono ?_
        rintro e w1 ⟨rfl, rfl⟩
        go_wp2_with fail
        refine bodyPost_ret (by simp [results, Try.results132, go_sem]; try rfl) rfl ?_
        exact ⟨by rw [hr.out]; rfl, by go_grown⟩
    · have hr : Hid (ofR s = ((0, 0), 3)) := by show _ = _; rw [hq, if_neg (fun h => hb h.2.1)]
      clear hq
      go_enter Try.func132, Try.ntmps132
      go_wp2_with fail
      refine (runhex_val _ _ _ _ (by rw [x1]; omega) H1.out).mono ?_
      rintro e w1 ⟨rfl, rfl⟩
      go_wp2_with fail
      refine (runhex_val _ _ _ _ (by rw [x2]; omega) H2.out).mono ?_
      rintro e w1 ⟨rfl, rfl⟩
      go_wp2_with fail
      refine bodyPost_ret (by simp [results, Try.results132, go_sem]; try rfl) rfl ?_
      exact ⟨by rw [hr.out]; rfl, by go_grown⟩
  · have h32' : ((s.size : Int) == 32) = false := by simp; omega
    have hr : Hid (ofR s = ((0, 0), 3)) := by show _ = _; unfold ofR; rw [if_neg (fun h => h32 h.1)]
    go_enter Try.func132, Try.ntmps132
    go_wp2_with fail
    refine bodyPost_ret (by simp [results, Try.results132, go_sem]; try rfl) rfl ?_
    exact ⟨by rw [hr.out]; rfl, by go_grown⟩

end C06
end Go.Proofs.Ytpamnknfccmgcaa
