/- Walks of layer 4 (head): the laws; no condition. -/
import Derived.Test.YthmopkaecbebpaaT04
namespace Go.Proofs.Ythmopkaecbebpaa
open Go.RowKit Go.Peri
namespace C04
end C04
end Go.Proofs.Ythmopkaecbebpaa
