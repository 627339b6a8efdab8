/- The pure statement of TagNames holds for every input that the row lets in. -/
import Derived.Test.YtlgiibchnnaceaaTagNamesLaw
namespace Go.Proofs.Ytlgiibchnnaceaa.Pure
theorem TagNames : Go.Proofs.Ytlgiibchnnaceaa.P.sallyportlaw06_TagNames.Pure := Go.Proofs.Ytlgiibchnnaceaa.M.namesLaw
end Go.Proofs.Ytlgiibchnnaceaa.Pure
