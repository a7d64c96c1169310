/- Walks of layer 11 (pred): whether a request has a header; no condition. -/
import Derived.Test.YthmopkaecbebpaaO11
namespace Go.Proofs.Ythmopkaecbebpaa
open Go.RowKit Go.Peri
namespace C11
set_option maxRecDepth 100000 in
theorem mHas {pp : Nat → Prop} (k : Int) (n v m h p b : ByteArray) (hd : Value) (l : List Hd) (r : Bool) (W : World) (hl : RowsOf pp Hd.enc 2 W hd l) (hp : ∀ b, pp b → b < W.heap.size) (hn : l.length ≤ 1000000) (hr : decide (0 < (Hd.allR l n).length) = r) :
    Calls Try.prog 188 #[.agg #[.int .i64 k, .string n, .string v], .agg #[.string m, .string h, .string p, hd, .string b]] W fun e w' => e = .returned (.bool r) ∧ Below W.heap.size W w' := by
  have HA := hid (fun w' (hw : Below W.heap.size W w') => C04.all_any hd l n w' (hl.below hw hp) (fun b hb => Nat.lt_of_lt_of_le (hp b hb) hw.size) (by omega))
  obtain ⟨a, cap, rfl⟩ := hl.form
  have HB0 : Hid (Below W.heap.size W ((W.alloc (.cells #[.int .i64 k, .string n, .string v] 232)).alloc (.cells #[.string m, .string h, .string p, .slice a l.length cap, .string b] 113))) := by show Below _ _ _; go_grown
  have HR := hid hr
  clear hl hp hr
  go_enter Try.func188, Try.ntmps188
  go_wp2_with fail
  refine (HA.out _ HB0.out).mono ?_
  rintro e w1 ⟨a1, c1, rfl, hb1, hrow⟩
  have HB1 := hid (HB0.out.trans (hb1.mono HB0.out.size))
  clear hb1 hrow
  go_wp2_with fail
  go_ret
  exact ⟨by rw [← HR.out]; rfl, HB1.out⟩
end C11
end Go.Proofs.Ythmopkaecbebpaa
