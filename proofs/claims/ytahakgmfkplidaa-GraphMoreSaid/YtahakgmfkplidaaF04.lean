/- Walks of layer 4 (head): headers without some names; no condition. -/
import Derived.Test.YtahakgmfkplidaaE04
import Derived.Test.YtahakgmfkplidaaCl
namespace Go.Peri
namespace Hd
def hasN (ns : List ByteArray) (h : Hd) : Bool := ns.any (fun x => decide (x = h.name))
def ixN (l : List Hd) (ns : List ByteArray) : Nat := l.findIdx (hasN ns)
def atN (l : List Hd) (ns : List ByteArray) : Int := if ixN l ns < l.length then ixN l ns else -1
theorem outR_hasN (l : List Hd) (ns : List ByteArray) : outR l ns = l.filter (fun h => !hasN ns h) := rfl
theorem ixN_hit {l : List Hd} {ns : List ByteArray} {k : Nat} (hk : k < l.length) (h1 : hasN ns l[k] = true) (h2 : ∀ j (_ : j < k) (hj : j < l.length), hasN ns l[j] = false) : ixN l ns = k := by
  unfold ixN
  rw [List.findIdx_eq hk]
  exact ⟨h1, fun j hj => by simpa using h2 j hj (by omega)⟩
theorem ixN_none {l : List Hd} {ns : List ByteArray} (h2 : ∀ j (_ : j < l.length) (hj : j < l.length), hasN ns l[j] = false) : ¬ ixN l ns < l.length := by
  intro h
  have := List.findIdx_getElem (w := h)
  have h3 := h2 _ h h
  unfold ixN at h3
  rw [this] at h3
  exact absurd h3 (by simp)
theorem out_none {l : List Hd} {ns : List ByteArray} (h : ¬ ixN l ns < l.length) : outR l ns = l := by
  rw [outR_hasN, List.filter_eq_self]
  intro x hx
  have hl : ixN l ns = l.length := by have : ixN l ns ≤ l.length := List.findIdx_le_length; omega
  obtain ⟨i, hi, rfl⟩ := List.getElem_of_mem hx
  have := List.not_of_lt_findIdx (p := hasN ns) (xs := l) (i := i) (by unfold ixN at hl; omega)
  simpa using this
theorem out_first {l : List Hd} {ns : List ByteArray} (h : ixN l ns < l.length) : outR (l.take (ixN l ns + 1)) ns = l.take (ixN l ns) := by
  have hit : hasN ns l[ixN l ns] = true := List.findIdx_getElem (w := h)
  rw [List.take_succ_eq_append_getElem h, outR_snoc]
  have : (ns.any fun x => decide (x = l[ixN l ns].name)) = true := hit
  rw [if_pos this, outR_hasN, List.filter_eq_self]
  intro x hx
  obtain ⟨i, hi, rfl⟩ := List.getElem_of_mem hx
  rw [List.length_take] at hi
  rw [List.getElem_take]
  have := List.not_of_lt_findIdx (p := hasN ns) (xs := l) (i := i) (by unfold ixN at hi; omega)
  simpa using this
end Hd
end Go.Peri
namespace Go.Proofs.Ytahakgmfkplidaa
open Go.RowKit Go.Peri
namespace C04
theorem s_cell {w : World} {b off : Nat} {l : List ByteArray} (hc : ∀ i (hi : i < l.length) j u, (sEnc l[i])[j]? = some u → w.cell? ⟨b, off + i * 1 + j, none⟩ = some u) (k : Nat) (hk : k < l.length) : w.cell? ⟨b, off + k, none⟩ = some (.string l[k]) := by
  have := hc k hk 0 _ rfl
  simpa using this

end C04
end Go.Proofs.Ytahakgmfkplidaa
