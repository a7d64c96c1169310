/- Walks of layer 4 (head): Set; the reference's Without and Set; no condition. -/
import Derived.Test.YtahakgmfkplidaaH04
namespace Go.Proofs.Ytahakgmfkplidaa
open Go.RowKit Go.Peri
namespace C04
theorem owns_below {w w' : World} {base : Nat} {e : TypeId} {size : Nat} {v : Value} {n : Nat} {xs : List Value} (h : w.ownsRow base e size v n xs) (hb : Below w.heap.size w w') : w'.ownsRow base e size v n xs :=
  owns_keep h (Only.of_below hb : Only [] w w') (fun k _ hk => by simp at hk)
theorem any_snoc (ns : List ByteArray) (s : ByteArray) (q : Nat) (hq : q < ns.length) : (ns.take (q + 1)).any (fun x => decide (x = s)) = ((ns.take q).any (fun x => decide (x = s)) || decide (ns[q] = s)) := by
  rw [List.take_succ_eq_append_getElem hq, List.any_append]
  simp
end C04
end Go.Proofs.Ytahakgmfkplidaa
