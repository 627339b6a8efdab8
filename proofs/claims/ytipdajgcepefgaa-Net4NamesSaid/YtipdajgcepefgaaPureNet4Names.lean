/- The pure statement of Net4Names holds for every input that the row lets in. -/
import Derived.Test.YtipdajgcepefgaaNet4NamesLaw
namespace Go.Proofs.Ytipdajgcepefgaa.Pure
theorem Net4Names : Go.Proofs.Ytipdajgcepefgaa.P.sallyportlaw07_Net4Names.Pure := Go.Proofs.Ytipdajgcepefgaa.M.namesLaw
end Go.Proofs.Ytipdajgcepefgaa.Pure
