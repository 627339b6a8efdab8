/- The pure statement of SegBytes holds for every input that the row lets in. -/
import Derived.Test.YtipdajgcepefgaaSegBytesLaw
namespace Go.Proofs.Ytipdajgcepefgaa.Pure
theorem SegBytes : Go.Proofs.Ytipdajgcepefgaa.P.sallyportlaw09_SegBytes.Pure := Go.Proofs.Ytipdajgcepefgaa.M.segBytesLaw
end Go.Proofs.Ytipdajgcepefgaa.Pure
