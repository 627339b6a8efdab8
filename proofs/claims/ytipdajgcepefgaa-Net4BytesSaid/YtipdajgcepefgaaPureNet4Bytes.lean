/- The pure statement of Net4Bytes holds for every input that the row lets in. -/
import Derived.Test.YtipdajgcepefgaaNet4BytesLaw
namespace Go.Proofs.Ytipdajgcepefgaa.Pure
theorem Net4Bytes : Go.Proofs.Ytipdajgcepefgaa.P.sallyportlaw07_Net4Bytes.Pure := Go.Proofs.Ytipdajgcepefgaa.M.net4BytesLaw
end Go.Proofs.Ytipdajgcepefgaa.Pure
