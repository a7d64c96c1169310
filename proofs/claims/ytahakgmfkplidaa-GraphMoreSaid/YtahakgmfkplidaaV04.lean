/- Walks of layer 4 (head): the laws; no condition. -/
import Derived.Test.YtahakgmfkplidaaT04
namespace Go.Proofs.Ytahakgmfkplidaa
open Go.RowKit Go.Peri
namespace C04
end C04
end Go.Proofs.Ytahakgmfkplidaa
