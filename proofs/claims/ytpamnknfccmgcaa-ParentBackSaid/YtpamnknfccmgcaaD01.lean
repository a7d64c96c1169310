/- Walks of layer 1 (octet): the number of bytes; no condition. -/
import Derived.Test.YtpamnknfccmgcaaC01
namespace Go.Proofs.Ytpamnknfccmgcaa
open Go.RowKit Go.Peri
namespace C01

def bytesAt (s : ByteArray) (at_ k : Nat) : List Nat := ((s.data.toList.drop at_).take k).map UInt8.toNat

theorem bytesAt_succ (s : ByteArray) (at_ k : Nat) (h : at_ + k < s.size) : bytesAt s at_ (k + 1) = bytesAt s at_ k ++ [(s[at_ + k]'h).toNat] := by
  unfold bytesAt
  have h' : k < (s.data.toList.drop at_).length := by
    rw [List.length_drop, Array.length_toList]; have : s.data.size = s.size := rfl; omega
  rw [List.take_succ_eq_append_getElem h', List.map_append]
  congr 1
  simp
  rfl
theorem bytesAt_lt (s : ByteArray) (at_ k : Nat) : ∀ d ∈ bytesAt s at_ k, d < 256 := by
  intro d hd
  obtain ⟨x, _, rfl⟩ := List.mem_map.1 hd
  exact x.toNat_lt
theorem bytesAt_len (s : ByteArray) (at_ k : Nat) : (bytesAt s at_ k).length ≤ k := by
  unfold bytesAt; rw [List.length_map, List.length_take]; omega
theorem val_bytesAt (s : ByteArray) (at_ k : Nat) : Oct.val 256 (bytesAt s at_ k) < 256 ^ k :=
  Oct.val_bound 256 _ (bytesAt_lt s at_ k) k (by decide) (bytesAt_len s at_ k)

theorem or_join (i m x : Nat) (hm : m * 2 ^ i + x < 18446744073709551616) (hx : x < 2 ^ i) : bits .or .u64 (((m * 2 ^ i : Nat)) : Int) (x : Int) = ((m * 2 ^ i + x : Nat) : Int) := by
  rw [u64_or_nat _ _ (by omega) (by omega), nat_join i _ _ (Nat.mul_mod_left _ _) hx]
theorem or256 (m : Nat) (x : UInt8) (hm : m < 256 ^ 7) : bits .or .u64 ((m : Int) * 256) (IntKind.u64.wrap (x.toNat : Int)) = ((m * 256 + x.toNat : Nat) : Int) := by
  have hx : x.toNat < 2 ^ 8 := x.toNat_lt
  have hw : IntKind.u64.wrap (x.toNat : Int) = (x.toNat : Int) := IntWalk.u64_in _ (by omega)
  have h := or_join 8 m x.toNat (by omega) hx
  rw [hw]
  simpa using h

def getR (s : ByteArray) (at_ w : Int) : Nat × Int :=
  if 1 ≤ w ∧ w ≤ 8 ∧ 0 ≤ at_ then (if at_ + w ≤ s.size then (Oct.val 256 (bytesAt s at_.toNat w.toNat), 0) else (0, 5)) else (0, 2)

end C01
end Go.Proofs.Ytpamnknfccmgcaa
