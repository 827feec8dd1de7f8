/- How the arguments of WheelPlays read, and its pure statement. No condition. -/
import Derived.Test.YtaefbibkkkglnaaMg7
import Derived.Test.YtaefbibkkkglnaaRead
import Derived.Test.YtaefbibkkkglnaaKn
namespace Go.Proofs.Ytaefbibkkkglnaa.Wh
open Go Go.ChangeShapes Go.WideShapes Go.RowKit Go.Proofs.YtaefbibkkkglnaaW.PrintWords Go.Proofs.Ytaefbibkkkglnaa.Rd Go.Proofs.Ytaefbibkkkglnaa.Kn

end Go.Proofs.Ytaefbibkkkglnaa.Wh
