/- Walks of layer 4 (head): headers without some names, with just one of a name; no condition. -/
import Derived.Test.YtahakgmfkplidaaG04
import Derived.Deep.DrawnRows
namespace Go.Proofs.Ytahakgmfkplidaa
open Go.RowKit Go.Peri
namespace C04
end C04
end Go.Proofs.Ytahakgmfkplidaa
