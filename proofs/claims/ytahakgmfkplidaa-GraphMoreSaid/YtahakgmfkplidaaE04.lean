/- Walks of layer 4 (head): the values of a name, one header more, lists alike; no condition. -/
import Derived.Test.YtahakgmfkplidaaD04
namespace Go.Proofs.Ytahakgmfkplidaa
open Go.RowKit Go.Peri
namespace C04
end C04
end Go.Proofs.Ytahakgmfkplidaa
