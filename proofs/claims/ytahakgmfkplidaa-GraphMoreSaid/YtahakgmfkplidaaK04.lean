/- Walks of layer 4 (head): the reference's Set; lists alike; few headers; no condition. -/
import Derived.Test.YtahakgmfkplidaaH04
namespace Go.Proofs.Ytahakgmfkplidaa
open Go.RowKit Go.Peri
namespace C04
def metB (l : List Hd) (n : ByteArray) (k : Nat) : Bool := decide (Hd.ix (l.take k) n < (l.take k).length)
end C04
end Go.Proofs.Ytahakgmfkplidaa
