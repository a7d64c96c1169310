/- Walks of layer 11 (pred): whether a predicate of a kind without a name may be; no condition. -/
import Derived.Test.YthmopkaecbebpaaH11
namespace Go.Proofs.Ythmopkaecbebpaa
open Go.RowKit Go.Peri
namespace C11
/-- A text that is not empty: as the walk asks it. -/
structure Full (s : ByteArray) : Prop where
  t1 : s.toList.isEmpty = false
  t2 : (!s.toList.isEmpty) = true
  t3 : ¬ s.toList = []
theorem full_of (s : ByteArray) (h0 : s.size ≠ 0) : Full s := by
  have t1 : s.toList.isEmpty = false := by
    rw [Bool.eq_false_iff]; intro h
    apply h0
    rw [List.isEmpty_iff, ByteArray.toList_eq] at h
    have := congrArg List.length h
    simpa using this
  exact ⟨t1, by rw [t1]; rfl, by rw [← List.isEmpty_iff, t1]; simp⟩
theorem none_of (s : ByteArray) (h0 : s.size = 0) : s = ByteArray.empty := ByteArray.ext (Array.eq_empty_of_size_eq_zero h0)
end C11
end Go.Proofs.Ythmopkaecbebpaa
