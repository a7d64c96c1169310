/- Walks of layer 16 (decide): what is done with a request, by the document; no condition. -/
import Derived.Test.YthmopkaecbebpaaG16
namespace Go.Proofs.Ythmopkaecbebpaa
open Go.RowKit Go.Peri
namespace C16
end C16
end Go.Proofs.Ythmopkaecbebpaa
