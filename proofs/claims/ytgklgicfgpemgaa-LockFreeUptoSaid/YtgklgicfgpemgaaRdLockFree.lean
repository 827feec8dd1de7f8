/- How the arguments of LockFree read, and its pure statement. No condition. -/
import Derived.Test.YtgklgicfgpemgaaLkFree
import Derived.Test.YtgklgicfgpemgaaRead
namespace Go.Proofs.Ytgklgicfgpemgaa.Lk
open Go Go.ChangeShapes Go.WideShapes Go.RowKit Go.Proofs.YtgklgicfgpemgaaW.PrintWords Go.Proofs.Ytgklgicfgpemgaa.Rd

end Go.Proofs.Ytgklgicfgpemgaa.Lk
