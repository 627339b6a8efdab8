/- The pure statement of DgramReads holds for every input that the row lets in. -/
import Derived.Test.YtipdajgcepefgaaDgramLaws
namespace Go.Proofs.Ytipdajgcepefgaa.Pure
theorem DgramReads : Go.Proofs.Ytipdajgcepefgaa.P.sallyportlaw10_DgramReads.Pure := Go.Proofs.Ytipdajgcepefgaa.M.dgramReadsLaw
end Go.Proofs.Ytipdajgcepefgaa.Pure
