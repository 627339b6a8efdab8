/- The pure statement of SegNames holds for every input that the row lets in. -/
import Derived.Test.YtipdajgcepefgaaSegNamesLaw
namespace Go.Proofs.Ytipdajgcepefgaa.Pure
theorem SegNames : Go.Proofs.Ytipdajgcepefgaa.P.sallyportlaw09_SegNames.Pure := Go.Proofs.Ytipdajgcepefgaa.M.namesLaw
end Go.Proofs.Ytipdajgcepefgaa.Pure
