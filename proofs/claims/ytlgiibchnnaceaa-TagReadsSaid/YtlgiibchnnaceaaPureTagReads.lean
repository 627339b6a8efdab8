/- The pure statement of TagReads holds for every input that the row lets in. -/
import Derived.Test.YtlgiibchnnaceaaTagLaws
namespace Go.Proofs.Ytlgiibchnnaceaa.Pure
theorem TagReads : Go.Proofs.Ytlgiibchnnaceaa.P.sallyportlaw06_TagReads.Pure := Go.Proofs.Ytlgiibchnnaceaa.M.tagReads
end Go.Proofs.Ytlgiibchnnaceaa.Pure
