/- How the arguments of PlanTrips read, and its pure statement. No condition. -/
import Derived.Test.YtoopoecopahcbaaTrL
import Derived.Test.YtoopoecopahcbaaRead
namespace Go.Proofs.Ytoopoecopahcbaa.Tr
open Go Go.ChangeShapes Go.WideShapes Go.RowKit Go.Proofs.YtoopoecopahcbaaW.PrintWords Go.Proofs.Ytoopoecopahcbaa.Rd

end Go.Proofs.Ytoopoecopahcbaa.Tr
