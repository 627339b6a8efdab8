/- The pure statement of SumsGroup holds for every input that the row lets in. -/
import Derived.Test.YtlgiibchnnaceaaSumsLaws
namespace Go.Proofs.Ytlgiibchnnaceaa.Pure
theorem SumsGroup : Go.Proofs.Ytlgiibchnnaceaa.P.sallyportlaw01_SumsGroup.Pure := Go.Proofs.Ytlgiibchnnaceaa.M.sumsGroup
end Go.Proofs.Ytlgiibchnnaceaa.Pure
