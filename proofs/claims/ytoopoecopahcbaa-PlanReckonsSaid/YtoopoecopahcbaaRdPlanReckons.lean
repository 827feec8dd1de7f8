/- How the arguments of PlanReckons read, and its pure statement. No condition. -/
import Derived.Test.YtoopoecopahcbaaPlReck7
import Derived.Test.YtoopoecopahcbaaRead
namespace Go.Proofs.Ytoopoecopahcbaa.Fl
open Go Go.ChangeShapes Go.WideShapes Go.RowKit Go.Proofs.YtoopoecopahcbaaW.PrintWords Go.Proofs.Ytoopoecopahcbaa.Rd

end Go.Proofs.Ytoopoecopahcbaa.Fl
