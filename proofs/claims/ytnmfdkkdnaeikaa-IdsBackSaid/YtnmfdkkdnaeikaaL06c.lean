/- The law IdsBack returns true: for every input, no condition. -/
import Derived.Test.YtnmfdkkdnaeikaaR06
import Derived.Test.YtnmfdkkdnaeikaaRows
namespace Go.Proofs.Ytnmfdkkdnaeikaa
open Go.RowKit Go.Peri
theorem idsBack_walk (W : World) (args : Array Value) (h : Args W W.heap.size [.cons (.int .u64) (.cons (.int .u64) .nil), .cons (.int .u64) (.cons (.int .u64) .nil), .slice 8 (.int .u64), .cons (.int .i64) (.cons (.int .i64) .nil)] args.toList) : Calls Try.prog 16 args W fun e W' => e = .returned (.bool true) ∧ Below W.heap.size W W' := by
  obtain ⟨v0, v1, v2, v3, rfl, h0, h1, h2, h3⟩ := args_four h
  obtain ⟨a, b, rfl, ha, hb⟩ := pair_of_arg h0
  obtain ⟨c, d, rfl, hc, hd⟩ := pair_of_arg h1
  obtain ⟨zs, hz, _, hw⟩ := nats_of_arg h2
  obtain ⟨x, y, rfl, hx, hy⟩ := two_of_arg h3
  exact C06.ids_back a b c d v2 zs x y W hz ha hb hc hd hx.1 hy.1 hw

set_option maxRecDepth 100000 in
theorem idsBack_lifted (os : Os) (started : os.Started) (H : Type) (enc : TypeId × Value → H) :
    ReturnsInHanded {} Try.checked os 16 .any (Rows.idsBackSpec.pre6 enc Try.prog Try.f16 Rows.idsBackRow.domain false) (Rows.idsBackSpec.post enc Try.prog Try.f16 false true false false) :=
  law_lift (C := Try.checked) (tb := 4) [.cons (.int .u64) (.cons (.int .u64) .nil), .cons (.int .u64) (.cons (.int .u64) .nil), .slice 8 (.int .u64), .cons (.int .i64) (.cons (.int .i64) .nil)] (by kernel_rfl) started (by kernel_rfl) Try.func16 (by kernel_rfl) rfl (by kernel_rfl) rfl Try.underlying4
    (fun ds h => by match ds, h with | [_, _, _, _], _ => rfl)
    (ChangeSpec.witness6 (enc := enc) (C := Try.checked) false ⟨#[], #[.agg #[.int .u64 0, .int .u64 0], .agg #[.int .u64 0, .int .u64 0], .slice none 0 0, .agg #[.int .i64 0, .int .i64 0]], []⟩ 8 (by kernel_rfl) (by kernel_rfl) (by kernel_rfl) (by kernel_rfl))
    idsBack_walk
theorem idsBack_holds : Rows.IdsBackSaid :=
  OpenClaim.holds_of_wide 16 Try.f16 rfl rfl rfl rfl rfl rfl rfl ⟨rfl, rfl, rfl, rfl, rfl⟩ rfl rfl rfl rfl rfl (by kernel_rfl) Try.func16 (by kernel_rfl)
    (of_decide_eq_true (by kernel_rfl)) (by unfold Func.isWrapper; first | (rw [if_pos (by decide +kernel)]; kernel_rfl) | (rw [if_neg (by decide +kernel)]; exact ⟨rfl, rfl⟩))
    (fun os started H enc _ => idsBack_lifted os started H enc)
#print axioms idsBack_holds
end Go.Proofs.Ytnmfdkkdnaeikaa
