/- The pure statement of DgramTurned holds for every input that the row lets in. -/
import Derived.Test.YtipdajgcepefgaaDgramTurnLaw
namespace Go.Proofs.Ytipdajgcepefgaa.Pure
theorem DgramTurned : Go.Proofs.Ytipdajgcepefgaa.P.sallyportlaw10_DgramTurned.Pure := Go.Proofs.Ytipdajgcepefgaa.M.dgramTurnedLaw
end Go.Proofs.Ytipdajgcepefgaa.Pure
