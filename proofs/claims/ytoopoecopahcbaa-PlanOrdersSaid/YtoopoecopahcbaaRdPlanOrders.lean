/- How the arguments of PlanOrders read, and its pure statement. No condition. -/
import Derived.Test.YtoopoecopahcbaaPom
import Derived.Test.YtoopoecopahcbaaRead
namespace Go.Proofs.Ytoopoecopahcbaa.Po
open Go Go.ChangeShapes Go.WideShapes Go.RowKit Go.Proofs.YtoopoecopahcbaaW.PrintWords Go.Proofs.Ytoopoecopahcbaa.Rd

end Go.Proofs.Ytoopoecopahcbaa.Po
