/- Walks of layer 30 (store): what is done with what was given back; no condition. -/
import Derived.Test.YtdamnbldimompaaQ30
namespace Go.Proofs.Ytdamnbldimompaa
open Go.RowKit Go.Peri
open Gen (rows_of_blk flat_set set_mid get_mid map_take_snoc owns_at owns_num owns_le owns_below owns_form)
namespace C30
open Kp (ix ixS)
theorem AddR.len {W : World} {kl : List Kp} {a : Option Addr} {n cap : Nat} {w : World} (h : AddR W kl a n cap w) : n = kl.length := by
  obtain ⟨l1, h1, h2, _⟩ := h
  rw [← h2, List.length_map, h1]
theorem AddR.below {W : World} {kl : List Kp} {a : Option Addr} {n cap : Nat} {w : World} (h : AddR W kl a n cap w) : Below W.heap.size W w := by
  obtain ⟨_, _, _, h, _⟩ := h
  exact h
/-- The base forgotten. -/
theorem AddR.self {W : World} {kl : List Kp} {a : Option Addr} {n cap : Nat} {w : World} (h : AddR W kl a n cap w) : AddR w kl a n cap w := by
  obtain ⟨l1, h1, h2, _, h4, h5⟩ := h
  exact ⟨l1, h1, h2, Below.refl _ _, h4, h5⟩
theorem AddR.nil (w : World) : AddR w [] none 0 0 w := ⟨[], rfl, rfl, Below.refl _ _, RowsOf.nil _ _ _ _, by simp⟩
theorem add_of {W : World} {kl : List Kp} {a : Option Addr} {n cap : Nat} {w : World} (h : AddR W kl a n cap w) (room : Int) (s : Sp) (hl : kl.length ≤ 1000) (hs : ∀ k ∈ kl, k.sp.length ≤ 1000000) :
    Calls Try.prog 9 #[.slice a n cap, .int .i64 room, .agg #[.int .u64 s.hi, .int .u64 s.lo, .int .u64 s.id, .int .u64 s.up, .string s.name, .int .i64 s.status, .int .i64 s.seq, .int .i64 s.kids, .bool s.shadow, .int .i64 s.start, .int .i64 s.stop]] w (Ret (AddQ w (Kp.add kl room s) (Kp.gone kl room s))) := by
  obtain ⟨l1, h1, h2, _, h4, h5⟩ := h
  have hl1 : l1.length = kl.length := by rw [← h2, List.length_map]
  rw [← h2]
  exact add_any (.slice a n cap) l1 room s w h4 (by omega) h5 (sp_of_core h2 hs)
/-- What Get gives. -/
def GotQ (W : World) (kl : List Kp) (hi lo : Nat) (v : Value) (w' : World) : Prop := ∃ k : Kq, v = .tuple #[.agg #[.int .u64 k.hi, .int .u64 k.lo, .slice k.pa k.sp.length k.pcap, .bool k.spilled, .bool k.clash], .bool (Kp.has kl hi lo)] ∧ k.core = Kp.get kl hi lo ∧ Below W.heap.size W w' ∧ k.At (· < w'.heap.size) w'
theorem get_of {W : World} {kl : List Kp} {a : Option Addr} {n cap : Nat} {w : World} (h : AddR W kl a n cap w) (hi lo : Nat) (hl : kl.length ≤ 1000) (hs : ∀ k ∈ kl, k.sp.length ≤ 1000000) :
    Calls Try.prog 11 #[.slice a n cap, .agg #[.int .u64 hi, .int .u64 lo]] w (Ret (GotQ w kl hi lo)) := by
  obtain ⟨l1, h1, h2, _, h4, h5⟩ := h
  have hl1 : l1.length = kl.length := by rw [← h2, List.length_map]
  rw [← h2]
  exact get_any (.slice a n cap) l1 hi lo w h4 (by omega) h5 (sp_of_core h2 hs)
theorem traces_of {W : World} {kl : List Kp} {a : Option Addr} {n cap : Nat} {w : World} (h : AddR W kl a n cap w) (hl : kl.length ≤ 1000) :
    Calls Try.prog 13 #[.slice a n cap] w fun e w' => ∃ ta tc, e = .returned (.slice ta kl.length tc) ∧ Below w.heap.size w w' ∧ Hid (w'.ownsRow w.heap.size 25 2 (.slice ta kl.length tc) kl.length (trs kl)) := by
  obtain ⟨l1, h1, h2, _, h4, h5⟩ := h
  have hl1 : l1.length = kl.length := by rw [← h2, List.length_map]
  refine (traces_any (.slice a n cap) l1 w h4 (by omega)).mono ?_
  rintro e w' ⟨v, rfl, ta, tc, rfl, hb, ho⟩
  rw [hl1, h2] at ho
  exact ⟨ta, tc, by rw [hl1], hb, ho⟩
def sA : Sp := ⟨0, 1, 5, 0, ByteArray.empty, 0, 0, 0, false, 0, 0⟩
def sB : Sp := ⟨0, 2, 5, 0, ByteArray.empty, 0, 0, 0, false, 0, 0⟩
def sC : Sp := ⟨0, 1, 5, 7, ByteArray.empty, 0, 0, 0, false, 0, 0⟩
theorem kA1 : Kp.add [] 1 sA = [Kp.fresh sA] ∧ Kp.gone [] 1 sA = 0 := ⟨rfl, rfl⟩
theorem kA2 : Kp.add [Kp.fresh sA] 1 sB = [Kp.fresh sB] ∧ Kp.gone [Kp.fresh sA] 1 sB = 1 := ⟨rfl, rfl⟩
theorem kA3 : Kp.add [Kp.fresh sA] 1 sA = [Kp.fresh sA] ∧ Kp.gone [Kp.fresh sA] 1 sA = 0 := Kp.again (l := [Kp.fresh sA]) (hi' := 0) (lo' := 1) (by decide) sA ⟨by decide, rfl⟩ rfl rfl
theorem kA4 : Kp.add [Kp.fresh sA] 1 sC = [{ Kp.fresh sA with clash := true }] := by
  have h : decide (sA = sC) = false := by decide
  show [Kp.put (Kp.fresh sA) sC] = _
  show [({ Kp.fresh sA with clash := false || !decide (sA = sC) } : Kp)] = _
  rw [h]
  rfl
theorem kA5 : Kp.has [Kp.fresh sA] 0 1 = true ∧ Kp.get [Kp.fresh sA] 0 1 = Kp.fresh sA := ⟨rfl, rfl⟩
end C30
end Go.Proofs.Ytdamnbldimompaa
