/- The pure statement of SegTurned holds for every input that the row lets in. -/
import Derived.Test.YtipdajgcepefgaaSegTurnLaw
namespace Go.Proofs.Ytipdajgcepefgaa.Pure
theorem SegTurned : Go.Proofs.Ytipdajgcepefgaa.P.sallyportlaw09_SegTurned.Pure := Go.Proofs.Ytipdajgcepefgaa.M.segTurnedLaw
end Go.Proofs.Ytipdajgcepefgaa.Pure
