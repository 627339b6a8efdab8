/- The pure statement of Net4Reads holds for every input that the row lets in. -/
import Derived.Test.YtipdajgcepefgaaNet4ReadsLaw
namespace Go.Proofs.Ytipdajgcepefgaa.Pure
theorem Net4Reads : Go.Proofs.Ytipdajgcepefgaa.P.sallyportlaw07_Net4Reads.Pure := Go.Proofs.Ytipdajgcepefgaa.M.net4ReadsLaw
end Go.Proofs.Ytipdajgcepefgaa.Pure
