/- Walks of layer 11 (pred): the document's check of no kind; no condition. -/
import Derived.Test.YthmopkaecbebpaaM11
namespace Go.Proofs.Ythmopkaecbebpaa
open Go.RowKit Go.Peri
namespace C11
end C11
end Go.Proofs.Ythmopkaecbebpaa
