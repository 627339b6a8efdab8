/- The pure statement of Net4Turned holds for every input that the row lets in. -/
import Derived.Test.YtipdajgcepefgaaNet4TurnLaw
namespace Go.Proofs.Ytipdajgcepefgaa.Pure
theorem Net4Turned : Go.Proofs.Ytipdajgcepefgaa.P.sallyportlaw07_Net4Turned.Pure := Go.Proofs.Ytipdajgcepefgaa.M.net4TurnedLaw
end Go.Proofs.Ytipdajgcepefgaa.Pure
