/- The pure statement of SegReads holds for every input that the row lets in. -/
import Derived.Test.YtipdajgcepefgaaSegReadsLaw
namespace Go.Proofs.Ytipdajgcepefgaa.Pure
theorem SegReads : Go.Proofs.Ytipdajgcepefgaa.P.sallyportlaw09_SegReads.Pure := Go.Proofs.Ytipdajgcepefgaa.M.segReadsLaw
end Go.Proofs.Ytipdajgcepefgaa.Pure
