/- How the arguments of PlanWhole read, and its pure statement. No condition. -/
import Derived.Test.YtoopoecopahcbaaPlWhole
import Derived.Test.YtoopoecopahcbaaRead
namespace Go.Proofs.Ytoopoecopahcbaa.Fl
open Go Go.ChangeShapes Go.WideShapes Go.RowKit Go.Proofs.YtoopoecopahcbaaW.PrintWords Go.Proofs.Ytoopoecopahcbaa.Rd

end Go.Proofs.Ytoopoecopahcbaa.Fl
