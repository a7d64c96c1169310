/- The law FlightAcks returns true: for every input, no condition. -/
import Derived.Test.YtdamnbldimompaaP26
import Derived.Test.YtdamnbldimompaaA30
import Derived.Test.YtdamnbldimompaaRows
namespace Go.Proofs.Ytdamnbldimompaa
open Go.RowKit Go.Peri
theorem flightAcks_walk (W : World) (args : Array Value) (h : Args W W.heap.size [.slice 56 Sq.ty, .int .i64, .int .i64] args.toList) : Calls Try.prog 6 args W fun e W' => e = .returned (.bool true) ∧ Below W.heap.size W W' := by
  obtain ⟨v0, v1, v2, rfl, h0, h1, h2⟩ := args_three h
  obtain ⟨l, hl, hll, hw⟩ := sents_of_arg h0
  obtain ⟨a, rfl, _⟩ := int64_of_arg h1
  obtain ⟨b, rfl, _⟩ := int64_of_arg h2
  exact C26.acks_walk C26.known_any v0 l a b W hl hll hw

set_option maxRecDepth 100000 in
theorem flightAcks_lifted (os : Os) (started : os.Started) (H : Type) (enc : TypeId × Value → H) :
    ReturnsInHanded {} Try.checked os 6 .any (Rows.flightAcksSpec.pre6 enc Try.prog Try.f6 Rows.flightAcksRow.domain false) (Rows.flightAcksSpec.post enc Try.prog Try.f6 false true false false) :=
  law_lift (C := Try.checked) (tb := 4) [.slice 56 Sq.ty, .int .i64, .int .i64] (by kernel_rfl) started (by kernel_rfl) Try.func6 (by kernel_rfl) rfl (by kernel_rfl) rfl Try.underlying4
    (fun ds h => by match ds, h with | [_, _, _], _ => rfl)
    (ChangeSpec.witness6 (enc := enc) (C := Try.checked) false ⟨#[], #[.slice none 0 0, .int .i64 0, .int .i64 0], []⟩ 8 (by kernel_rfl) (by kernel_rfl) (by kernel_rfl) (by kernel_rfl))
    flightAcks_walk
theorem flightAcks_holds : Rows.FlightAcksSaid :=
  OpenClaim.holds_of_wide 6 Try.f6 rfl rfl rfl rfl rfl rfl rfl ⟨rfl, rfl, rfl, rfl, rfl⟩ rfl rfl rfl rfl rfl (by kernel_rfl) Try.func6 (by kernel_rfl)
    (of_decide_eq_true (by kernel_rfl)) (by unfold Func.isWrapper; first | (rw [if_pos (by decide +kernel)]; kernel_rfl) | (rw [if_neg (by decide +kernel)]; exact ⟨rfl, rfl⟩))
    (fun os started H enc _ => flightAcks_lifted os started H enc)
#print axioms flightAcks_holds
end Go.Proofs.Ytdamnbldimompaa
