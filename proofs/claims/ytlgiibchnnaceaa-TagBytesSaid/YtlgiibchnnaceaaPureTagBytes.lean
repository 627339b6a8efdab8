/- The pure statement of TagBytes holds for every input that the row lets in. -/
import Derived.Test.YtlgiibchnnaceaaTagLaws
namespace Go.Proofs.Ytlgiibchnnaceaa.Pure
theorem TagBytes : Go.Proofs.Ytlgiibchnnaceaa.P.sallyportlaw06_TagBytes.Pure := Go.Proofs.Ytlgiibchnnaceaa.M.tagBytesLaw
end Go.Proofs.Ytlgiibchnnaceaa.Pure
