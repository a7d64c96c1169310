/- Walks of layer 3 (crc): a machine: its cells; a new one; its table is filled; what it counts; no condition. -/
import Derived.Test.YthmopkaecbebpaaC03
import Derived.Tactics
import Derived.Tactics2
import Derived.Defers
import Derived.Laws.Pointers
import Derived.Laws.LoneSync
import Derived.RegionTactic
import Derived.RegionCalls
import Derived.ChangeAlike
import Derived.Deep.RegionHeld3
namespace Go.Peri
open Go.RowKit
/-- A machine's cells. -/
structure Mach (w : World) (g : Nat) (dn st mk bs : Int) (tb : Nat → Nat) : Prop where
  lt : g < w.heap.size
  c0 : w.cell? ⟨g, 0, none⟩ = some (.int .u32 dn)
  c1 : w.cell? ⟨g, 1, none⟩ = some (.int .i32 st)
  tab : ∀ i, i < 256 → w.cell? ⟨g, 3 + i, none⟩ = some (.int .u32 (tb i))
  made : w.cell? ⟨g, 259, none⟩ = some (.int .i64 mk)
  bytes : w.cell? ⟨g, 260, none⟩ = some (.int .i64 bs)
  free : ∀ i, w.frozen? ⟨g, i, none⟩ = false
namespace Mach
variable {w w' : World} {g : Nat} {dn st mk bs : Int} {tb : Nat → Nat}
theorem only {S : List Nat} (h : Mach w g dn st mk bs tb) (ho : Only S w w') (hs : g ∉ S) : Mach w' g dn st mk bs tb :=
  ⟨Nat.lt_of_lt_of_le h.lt ho.size, (ho.cell h.lt hs).trans h.c0, (ho.cell h.lt hs).trans h.c1, fun i hi => (ho.cell h.lt hs).trans (h.tab i hi), (ho.cell h.lt hs).trans h.made, (ho.cell h.lt hs).trans h.bytes, fun i => (ho.frozen h.lt hs).trans (h.free i)⟩
theorem drew (h : Mach w g dn st mk bs tb) : Mach w.drew g dn st mk bs tb := h.only (S := []) (Only.refl _ _).drew (by simp)
theorem later (h : Mach w g dn st mk bs tb) (hb : Below w.heap.size w w') : Mach w' g dn st mk bs tb := h.only (S := []) (Only.of_below hb) (by simp)
theorem other (i j : Nat) (v : Value) (hij : i ≠ j) : (w.setCell ⟨g, i, none⟩ v).cell? ⟨g, j, none⟩ = w.cell? ⟨g, j, none⟩ := World.cell?_setCell_other _ _ _ _ (fun h => hij (congrArg Addr.off h))
theorem done (h : Mach w g dn st mk bs tb) (x : Int) : Mach (w.setCell ⟨g, 0, none⟩ (.int .u32 x)) g x st mk bs tb :=
  ⟨by simpa using h.lt, World.cell?_setCell_same _ _ _ h.c0, (other 0 1 _ (by decide)).trans h.c1, fun i hi => (other 0 (3 + i) _ (by omega)).trans (h.tab i hi), (other 0 259 _ (by decide)).trans h.made, (other 0 260 _ (by decide)).trans h.bytes, fun i => (World.frozen?_setCell _ _ _ _).trans (h.free i)⟩
theorem state (h : Mach w g dn st mk bs tb) (x : Int) : Mach (w.setCell ⟨g, 1, none⟩ (.int .i32 x)) g dn x mk bs tb :=
  ⟨by simpa using h.lt, (other 1 0 _ (by decide)).trans h.c0, World.cell?_setCell_same _ _ _ h.c1, fun i hi => (other 1 (3 + i) _ (by omega)).trans (h.tab i hi), (other 1 259 _ (by decide)).trans h.made, (other 1 260 _ (by decide)).trans h.bytes, fun i => (World.frozen?_setCell _ _ _ _).trans (h.free i)⟩
theorem mades (h : Mach w g dn st mk bs tb) (x : Int) : Mach (w.setCell ⟨g, 259, none⟩ (.int .i64 x)) g dn st x bs tb :=
  ⟨by simpa using h.lt, (other 259 0 _ (by decide)).trans h.c0, (other 259 1 _ (by decide)).trans h.c1, fun i hi => (other 259 (3 + i) _ (by omega)).trans (h.tab i hi), World.cell?_setCell_same _ _ _ h.made, (other 259 260 _ (by decide)).trans h.bytes, fun i => (World.frozen?_setCell _ _ _ _).trans (h.free i)⟩
theorem bytess (h : Mach w g dn st mk bs tb) (x : Int) : Mach (w.setCell ⟨g, 260, none⟩ (.int .i64 x)) g dn st mk x tb :=
  ⟨by simpa using h.lt, (other 260 0 _ (by decide)).trans h.c0, (other 260 1 _ (by decide)).trans h.c1, fun i hi => (other 260 (3 + i) _ (by omega)).trans (h.tab i hi), (other 260 259 _ (by decide)).trans h.made, World.cell?_setCell_same _ _ _ h.bytes, fun i => (World.frozen?_setCell _ _ _ _).trans (h.free i)⟩
theorem row (h : Mach w g dn st mk bs tb) (k : Nat) (hk : k < 256) (x : Nat) : Mach (w.setCell ⟨g, 3 + k, none⟩ (.int .u32 x)) g dn st mk bs (fun i => if i = k then x else tb i) := by
  refine ⟨by simpa using h.lt, (other (3 + k) 0 _ (by omega)).trans h.c0, (other (3 + k) 1 _ (by omega)).trans h.c1, fun i hi => ?_, (other (3 + k) 259 _ (by omega)).trans h.made, (other (3 + k) 260 _ (by omega)).trans h.bytes, fun i => (World.frozen?_setCell _ _ _ _).trans (h.free i)⟩
  by_cases hik : i = k
  · subst hik
    simp only [if_true]
    exact World.cell?_setCell_same _ _ _ (h.tab i hi)
  · simp only [hik, if_false]
    exact (other (3 + k) (3 + i) _ (by omega)).trans (h.tab i hi)
theorem congr {tb' : Nat → Nat} (h : Mach w g dn st mk bs tb) (he : ∀ i, i < 256 → tb i = tb' i) : Mach w g dn st mk bs tb' := ⟨h.lt, h.c0, h.c1, fun i hi => by rw [h.tab i hi, he i hi], h.made, h.bytes, h.free⟩
end Mach
end Go.Peri
namespace Go.Proofs.Ythmopkaecbebpaa
open Go.RowKit Go.Peri
namespace C03
theorem new_any (w : World) : Calls Try.prog 61 #[] w fun e w' => e = .returned (.pointer (some ⟨w.heap.size, 0, none⟩)) ∧ Below w.heap.size w w' ∧ w.heap.size < w'.heap.size ∧ Mach w' w.heap.size 0 0 0 0 (fun _ => 0) := by
  go_enter Try.func61, Try.ntmps61
  go_wp2
  go_ret
  have hb := Blk.new w Try.zeroCells183 183
  have ht : (Try.zeroCells183.toList.drop 3).take 256 = List.replicate 256 (Value.int .u32 0) := by kernel_rfl
  have e0 : Try.zeroCells183[0]? = some (Value.int .u32 0) := by kernel_rfl
  have e1 : Try.zeroCells183[1]? = some (Value.int .i32 0) := by kernel_rfl
  have e2 : Try.zeroCells183[259]? = some (Value.int .i64 0) := by kernel_rfl
  have e3 : Try.zeroCells183[260]? = some (Value.int .i64 0) := by kernel_rfl
  refine ⟨rfl, by go_grown, by simp, by simp, (hb.cell 0).trans e0, (hb.cell 1).trans e1, fun i hi => ?_, (hb.cell 259).trans e2, (hb.cell 260).trans e3, fun i => hb.free i⟩
  · rw [hb.cell]
    have h2 : ((Try.zeroCells183.toList.drop 3).take 256)[i]? = some (Value.int .u32 0) := by rw [ht, List.getElem?_replicate, if_pos hi]
    rw [List.getElem?_take_of_lt hi, List.getElem?_drop, Array.getElem?_toList] at h2
    exact h2
theorem load64 (a : Addr) (x : Int) (w : World) (h : w.cell? a = some (.int .i64 x)) : Calls Try.prog 74 #[.pointer (some a)] w fun e w' => e = .returned (.int .i64 x) ∧ w = w' := by
  have hl := run_call_load (P := Try.prog) Try.func109 (by kernel_rfl) (by kernel_rfl) (by kernel_rfl) .i64 (by kernel_rfl) h
  go_enter Try.func74, Try.ntmps74
  go_wp2
  go_ret
  exact ⟨rfl, rfl⟩
theorem store64 (a : Addr) (x : Value) (y : Int) (w : World) (hc : w.cell? a = some x) (hz : w.frozen? a = false) : Calls Try.prog 102 #[.pointer (some a), .int .i64 y] w fun e w' => e = .returned (.tuple #[]) ∧ w.setCell a (.int .i64 y) = w' := by
  have hst := run_call_store (P := Try.prog) Try.func131 (by kernel_rfl) (by kernel_rfl) (by kernel_rfl) (by kernel_rfl) (k := .i64) (y := y) hc hz
  go_enter Try.func102, Try.ntmps102
  go_wp2
  go_end0
  exact ⟨rfl, rfl⟩
theorem add64 (a : Addr) (w : World) (hc : w.cell? a = some (.int .i64 0)) (hz : w.frozen? a = false) : Calls Try.prog 130 #[.pointer (some a), .int .i64 1] w fun e w' => e = .returned (.int .i64 1) ∧ w.setCell a (.int .i64 1) = w' := by
  have hadd := run_call_add (P := Try.prog) Try.func143 (by kernel_rfl) (by kernel_rfl) (by kernel_rfl) .i64 (by kernel_rfl) (y := 1) (s := 1) hc hz (by simp [go_sem]; rfl)
  go_enter Try.func130, Try.ntmps130
  go_wp2
  go_ret
  exact ⟨rfl, rfl⟩
theorem made_any (a : Nat) (dn st mk bs : Int) (tb : Nat → Nat) (w : World) (h : Mach w a dn st mk bs tb) : Calls Try.prog 63 #[.pointer (some ⟨a, 0, none⟩)] w fun e w' => e = .returned (.int .i64 mk) ∧ w = w' := by
  have hl := load64 ⟨a, 259, none⟩ mk w h.made
  go_enter Try.func63, Try.ntmps63
  go_wp2_with fail
  refine hl.mono ?_
  rintro e w' ⟨rfl, rfl⟩
  go_wp2_with fail
  go_ret
  exact ⟨rfl, rfl⟩
theorem bytes_any (a : Nat) (dn st mk bs : Int) (tb : Nat → Nat) (w : World) (h : Mach w a dn st mk bs tb) : Calls Try.prog 64 #[.pointer (some ⟨a, 0, none⟩)] w fun e w' => e = .returned (.int .i64 bs) ∧ w = w' := by
  have hl := load64 ⟨a, 260, none⟩ bs w h.bytes
  go_enter Try.func64, Try.ntmps64
  go_wp2_with fail
  refine hl.mono ?_
  rintro e w' ⟨rfl, rfl⟩
  go_wp2_with fail
  go_ret
  exact ⟨rfl, rfl⟩
theorem made_nil (w : World) : Calls Try.prog 63 #[.pointer none] w fun e w' => e = .returned (.int .i64 0) ∧ w = w' := by
  go_enter Try.func63, Try.ntmps63
  go_wp2
  go_ret
  exact ⟨rfl, rfl⟩
theorem bytes_nil (w : World) : Calls Try.prog 64 #[.pointer none] w fun e w' => e = .returned (.int .i64 0) ∧ w = w' := by
  go_enter Try.func64, Try.ntmps64
  go_wp2
  go_ret
  exact ⟨rfl, rfl⟩
end C03
end Go.Proofs.Ythmopkaecbebpaa
