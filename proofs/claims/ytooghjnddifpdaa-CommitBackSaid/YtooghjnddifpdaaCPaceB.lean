/- The walks of package pace: forms alone (the part of Pace that seats without the law's own 'of' can use). -/
import Derived.Test.YtooghjnddifpdaaPace0
namespace Go.Proofs.Ytooghjnddifpdaa
open Go.RowKit Go.Proofs.Ytooghjnddifpdaa.Pc

end Go.Proofs.Ytooghjnddifpdaa
