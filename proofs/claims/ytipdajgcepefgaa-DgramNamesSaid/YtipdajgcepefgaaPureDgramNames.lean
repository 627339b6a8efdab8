/- The pure statement of DgramNames holds for every input that the row lets in. -/
import Derived.Test.YtipdajgcepefgaaDgramNamesLaw
namespace Go.Proofs.Ytipdajgcepefgaa.Pure
theorem DgramNames : Go.Proofs.Ytipdajgcepefgaa.P.sallyportlaw10_DgramNames.Pure := Go.Proofs.Ytipdajgcepefgaa.M.namesLaw
end Go.Proofs.Ytipdajgcepefgaa.Pure
