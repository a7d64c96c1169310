/- Walks of layer 11 (pred): whether a request has a header of just one value; no condition. -/
import Derived.Test.YthmopkaecbebpaaP11
import Derived.Deep.RegionHeld3
namespace Go.Proofs.Ythmopkaecbebpaa
open Go.RowKit Go.Peri
namespace C11
set_option maxRecDepth 100000 in
set_option maxHeartbeats 1000000 in
theorem mHead {pp : Nat → Prop} (k : Int) (n v m h p b : ByteArray) (hd : Value) (l : List Hd) (r : Bool) (W : World) (hl : RowsOf pp Hd.enc 2 W hd l) (hp : ∀ b, pp b → b < W.heap.size) (hn : l.length ≤ 1000000) (hr : (Hd.allR l n).any (fun x => decide (x = v)) = r) :
    Calls Try.prog 184 #[.agg #[.int .i64 k, .string n, .string v], .agg #[.string m, .string h, .string p, hd, .string b]] W fun e w' => e = .returned (.bool r) ∧ Below W.heap.size W w' := by
  have HA := hid (fun w' (hw : Below W.heap.size W w') => C04.all_any hd l n w' (hl.below hw hp) (fun b hb => Nat.lt_of_lt_of_le (hp b hb) hw.size) (by omega))
  have hlen : (Hd.allR l n).length ≤ 1000000000000 := by
    unfold Hd.allR; rw [List.length_map]; exact Nat.le_trans (List.length_filter_le _ _) (by omega)
  obtain ⟨a, cap, rfl⟩ := hl.form
  have HZ := hid ((Blk.new W #[.int .i64 k, .string n, .string v] 232).alloc (.cells #[.string m, .string h, .string p, .slice a l.length cap, .string b] 113))
  have HY := hid (Blk.new' (W.alloc (.cells #[.int .i64 k, .string n, .string v] 232)) #[.string m, .string h, .string p, .slice a l.length cap, .string b] 113 (n := W.heap.size + 1) (by simp))
  have HB0 : Hid (Below W.heap.size W ((W.alloc (.cells #[.int .i64 k, .string n, .string v] 232)).alloc (.cells #[.string m, .string h, .string p, .slice a l.length cap, .string b] 113))) := by show Below _ _ _; go_grown
  have KEEP : Hid (∀ w', Below ((W.alloc (.cells #[.int .i64 k, .string n, .string v] 232)).alloc (.cells #[.string m, .string h, .string p, .slice a l.length cap, .string b] 113)).heap.size ((W.alloc (.cells #[.int .i64 k, .string n, .string v] 232)).alloc (.cells #[.string m, .string h, .string p, .slice a l.length cap, .string b] 113)) w' →
      w'.cell? ⟨W.heap.size, 1, none⟩ = some (.string n) ∧ w'.cell? ⟨W.heap.size, 2, none⟩ = some (.string v) ∧ w'.cell? ⟨W.heap.size + 1, 3, none⟩ = some (.slice a l.length cap)) :=
    fun w' hw => ⟨(HZ.out.later hw).cell 1, (HZ.out.later hw).cell 2, (HY.out.later hw).cell 3⟩
  have HR := hid hr
  have HLEN := hid hlen
  clear hl hp hr HZ HY hlen
  go_enter Try.func184, Try.ntmps184
  go_wp2_with fail
  go_region_held3 (fun w' => w'.cell? ⟨W.heap.size, 1, none⟩ = some (.string n) ∧ w'.cell? ⟨W.heap.size, 2, none⟩ = some (.string v) ∧ w'.cell? ⟨W.heap.size + 1, 3, none⟩ = some (.slice a l.length cap))
    (first
      | exact KEEP.out _ hb2
      | exact KEEP.out _ (Below.refl _ _).drew
      | go_keep)
    ((first
      | (go_at_call 186; (with_reducible refine (HA.out _ HB0.out.drew).mono ?_); rintro e w1 ⟨a1, c1, rfl, hb1, hrow⟩; have hb2 := below_drew hb1)
      | (go_at_call 185; refine (C04.contains_any _ _ v r w1 (RowsOf.of_owns sEnc_length hrow.out) HLEN.out HR.out).mono ?_; rintro e w' ⟨rfl, rfl⟩)))
  all_goals
    have HB1 := hid (HB0.out.trans (hb2.mono HB0.out.size))
    clear hb1 hrow hb2
    go_wp2_with fail
    go_ret
    exact ⟨rfl, HB1.out⟩
/-- Whether a request matches. -/
def matchR (k : Int) (n v m h p : ByteArray) (l : List Hd) : Bool :=
  if k = 1 then decide (m = v) else if k = 2 then decide (h = v) else if k = 3 then decide (p = v) else if k = 4 then prefR p v
  else if k = 5 then (Hd.allR l n).any (fun x => decide (x = v)) else if k = 6 then decide (0 < (Hd.allR l n).length) else false
end C11
end Go.Proofs.Ythmopkaecbebpaa
