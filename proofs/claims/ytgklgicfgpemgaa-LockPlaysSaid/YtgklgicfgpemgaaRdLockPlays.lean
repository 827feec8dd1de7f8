/- How the arguments of LockPlays read, and its pure statement. No condition. -/
import Derived.Test.YtgklgicfgpemgaaLkPlays
import Derived.Test.YtgklgicfgpemgaaRead
import Derived.Test.YtgklgicfgpemgaaKn
namespace Go.Proofs.Ytgklgicfgpemgaa.Lk
open Go Go.ChangeShapes Go.WideShapes Go.RowKit Go.Proofs.YtgklgicfgpemgaaW.PrintWords Go.Proofs.Ytgklgicfgpemgaa.Rd Go.Proofs.Ytgklgicfgpemgaa.Kn

end Go.Proofs.Ytgklgicfgpemgaa.Lk
