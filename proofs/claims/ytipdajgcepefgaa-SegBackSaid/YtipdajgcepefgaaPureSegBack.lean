/- The pure statement of SegBack holds for every input that the row lets in. -/
import Derived.Test.YtipdajgcepefgaaSegBackLaw
namespace Go.Proofs.Ytipdajgcepefgaa.Pure
theorem SegBack : Go.Proofs.Ytipdajgcepefgaa.P.sallyportlaw09_SegBack.Pure := Go.Proofs.Ytipdajgcepefgaa.M.segBackLaw
end Go.Proofs.Ytipdajgcepefgaa.Pure
