/- The pure statement of DgramBytes holds for every input that the row lets in. -/
import Derived.Test.YtipdajgcepefgaaDgramLaws
namespace Go.Proofs.Ytipdajgcepefgaa.Pure
theorem DgramBytes : Go.Proofs.Ytipdajgcepefgaa.P.sallyportlaw10_DgramBytes.Pure := Go.Proofs.Ytipdajgcepefgaa.M.dgramBytesLaw
end Go.Proofs.Ytipdajgcepefgaa.Pure
