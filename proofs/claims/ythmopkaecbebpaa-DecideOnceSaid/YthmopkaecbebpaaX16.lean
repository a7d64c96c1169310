/- Walks of layer 16 (decide): DecideOnce; no condition. -/
import Derived.Test.YthmopkaecbebpaaU16
import Derived.Test.YthmopkaecbebpaaV16
import Derived.Test.YthmopkaecbebpaaW16
namespace Go.Proofs.Ythmopkaecbebpaa
open Go.RowKit Go.Peri
namespace C16
theorem once_walk (K : Known) (n : Int) (l : List Rl) (a : Option Addr) (cap : Nat) (f : ByteArray) (m h p b : ByteArray) (hs : List Hd) (a0 : Option Addr) (cap0 : Nat) (x0 x1 x2 : Int) (W : World) (ht : TabV W W.heap.size l a cap f) (hq : ReqV W W.heap.size m h p b hs a0 cap0) :
    Calls Try.prog 16 #[.agg #[.int .i64 n, .slice a l.length cap, .string f], .agg #[.string m, .string h, .string p, .slice a0 hs.length cap0, .string b], .agg #[.int .i64 x0, .int .i64 x1, .int .i64 x2]] W fun e w' => e = .returned (.bool true) ∧ Below W.heap.size W w' := by
  by_cases hrt : fewT l f = true
  · by_cases hrs : C11.short m h p b hs = true
    · by_cases h0 : ix m h p hs l < l.length
      · have hr : lookR m h p hs l = (ix m h p hs l : Nat) := if_pos h0
        have hA2 : ofR m h p hs l x0 x1 x2 true = ⟨2, ix m h p hs l, l[ix m h p hs l].target, 0, 0, ByteArray.empty⟩ := by unfold ofR; rw [dif_pos h0, if_pos rfl]
        by_cases f0 : firesR x0 l[ix m h p hs l].ap = true
        · refine once_abort K n l a cap f m h p b hs a0 cap0 x0 x1 x2 W ht hq hrt hrs _ h0 hr ?_ ?_ hA2
          · unfold firesR at f0
            have := of_decide_eq_true f0
            omega
          · unfold ofR troubleR
            rw [dif_pos h0, if_neg (by simp), if_pos f0]
        · refine once_pass K n l a cap f m h p b hs a0 cap0 x0 x1 x2 W ht hq hrt hrs _ h0 hr (if firesR x1 l[ix m h p hs l].dp = true then l[ix m h p hs l].dt else 0) (if firesR x2 l[ix m h p hs l].mp = true then l[ix m h p hs l].mirror else ByteArray.empty) ?_ ?_ ?_ ?_ ?_ ?_ hA2
          · unfold firesR at f0
            simp only [decide_eq_true_eq] at f0
            omega
          · intro hd
            unfold firesR at hd
            by_cases hx : x1 % 100 < l[ix m h p hs l].dp
            · omega
            · simp [hx] at hd
          · intro hd
            unfold firesR
            rw [if_pos (decide_eq_true (by omega))]
          · intro hd
            unfold firesR at hd
            by_cases hx : x2 % 100 < l[ix m h p hs l].mp
            · omega
            · simp [hx] at hd
          · intro hd
            unfold firesR
            rw [if_pos (decide_eq_true (by omega))]
          · unfold ofR troubleR
            rw [dif_pos h0, if_neg (by simp), if_neg f0]
      · have e1 : ∀ sh, ofR m h p hs l x0 x1 x2 sh = ⟨0, -1, ByteArray.empty, 404, 0, ByteArray.empty⟩ := fun sh => by unfold ofR; rw [dif_neg h0]
        exact once_none K n l a cap f m h p b hs a0 cap0 x0 x1 x2 W ht hq hrt hrs (if_neg h0) (e1 _) (e1 _)
    · exact once_few K n l a cap f m h p b hs a0 cap0 x0 x1 x2 W ht hq (.inr (by simpa using hrs))
  · exact once_few K n l a cap f m h p b hs a0 cap0 x0 x1 x2 W ht hq (.inl (by simpa using hrt))
end C16
end Go.Proofs.Ythmopkaecbebpaa
