/- The pure statement of Net4Back holds for every input that the row lets in. -/
import Derived.Test.YtipdajgcepefgaaNet4BackLaw
namespace Go.Proofs.Ytipdajgcepefgaa.Pure
theorem Net4Back : Go.Proofs.Ytipdajgcepefgaa.P.sallyportlaw07_Net4Back.Pure := Go.Proofs.Ytipdajgcepefgaa.M.net4BackLaw
end Go.Proofs.Ytipdajgcepefgaa.Pure
