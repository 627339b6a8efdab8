/- The pure statement of DgramBack holds for every input that the row lets in. -/
import Derived.Test.YtipdajgcepefgaaDgramLaws
namespace Go.Proofs.Ytipdajgcepefgaa.Pure
theorem DgramBack : Go.Proofs.Ytipdajgcepefgaa.P.sallyportlaw10_DgramBack.Pure := Go.Proofs.Ytipdajgcepefgaa.M.dgramBackLaw
end Go.Proofs.Ytipdajgcepefgaa.Pure
