/- The pure statement of TagBack holds for every input that the row lets in. -/
import Derived.Test.YtlgiibchnnaceaaTagLaws
namespace Go.Proofs.Ytlgiibchnnaceaa.Pure
theorem TagBack : Go.Proofs.Ytlgiibchnnaceaa.P.sallyportlaw06_TagBack.Pure := Go.Proofs.Ytlgiibchnnaceaa.M.tagBackLaw
end Go.Proofs.Ytlgiibchnnaceaa.Pure
