/- The pure statement of TagFirst holds for every input that the row lets in. -/
import Derived.Test.YtlgiibchnnaceaaTagLaws
namespace Go.Proofs.Ytlgiibchnnaceaa.Pure
theorem TagFirst : Go.Proofs.Ytlgiibchnnaceaa.P.sallyportlaw06_TagFirst.Pure := Go.Proofs.Ytlgiibchnnaceaa.M.tagFirstLaw
end Go.Proofs.Ytlgiibchnnaceaa.Pure
