/- How the arguments of WheelNil read, and its pure statement. No condition. -/
import Derived.Test.YtaefbibkkkglnaaWhNa
import Derived.Test.YtaefbibkkkglnaaRead
namespace Go.Proofs.Ytaefbibkkkglnaa.Wh
open Go Go.ChangeShapes Go.WideShapes Go.RowKit Go.Proofs.YtaefbibkkkglnaaW.PrintWords Go.Proofs.Ytaefbibkkkglnaa.Rd

end Go.Proofs.Ytaefbibkkkglnaa.Wh
