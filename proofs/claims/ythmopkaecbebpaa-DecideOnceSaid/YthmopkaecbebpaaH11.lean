/- Walks of layer 11 (pred): no kind; the document's checks; no condition. -/
import Derived.Test.YthmopkaecbebpaaG11
namespace Go.Proofs.Ythmopkaecbebpaa
open Go.RowKit Go.Peri
namespace C11
@[go_sem] theorem run_store_nilFn {P : Program} {w : World} {a : Addr} {m : Mode} : (store a .nilFunc m).run P w = stored P w a .nilFunc m := run_store P w a _ m rfl
set_option maxRecDepth 100000 in
theorem of_low (n : Int) (W : World) (h : n < 1) : Calls Try.prog 171 #[.int .i64 n] W fun e w' => e = .returned (.tuple #[.agg #[.bool false, .bool false, .nilFunc, .nilFunc], .bool false]) ∧ Below W.heap.size W w' := by
  go_enter Try.func171, Try.ntmps171
  go_wp2_with fail
  refine bodyPost_ret (by simp [results, Try.results171, go_sem]; try rfl) rfl ?_
  exact ⟨rfl, by go_grown⟩
set_option maxRecDepth 100000 in
theorem of_high (n : Int) (W : World) (h : 6 < n) : Calls Try.prog 171 #[.int .i64 n] W fun e w' => e = .returned (.tuple #[.agg #[.bool false, .bool false, .nilFunc, .nilFunc], .bool false]) ∧ Below W.heap.size W w' := by
  have h1 : ¬ n < 1 := by omega
  go_enter Try.func171, Try.ntmps171
  go_wp2_with fail
  refine bodyPost_ret (by simp [results, Try.results171, go_sem]; try rfl) rfl ?_
  exact ⟨rfl, by go_grown⟩
end C11
end Go.Proofs.Ythmopkaecbebpaa
