/- Terminals in memory; the laws that lean on them. -/
import Derived.Test.YtgfcnafhfgncoaaDoorVtP0
import Derived.Test.YtgfcnafhfgncoaaDoorVtL
namespace Go.Proofs.YtgfcnafhfgncoaaDoor
end Go.Proofs.YtgfcnafhfgncoaaDoor
