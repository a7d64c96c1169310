/- Walks of layer 11 (pred): the document's check; no condition. -/
import Derived.Test.YthmopkaecbebpaaK11
namespace Go.Proofs.Ythmopkaecbebpaa
open Go.RowKit Go.Peri
namespace C11
end C11
end Go.Proofs.Ythmopkaecbebpaa
