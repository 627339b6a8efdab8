/- The pure statement of SumsAdds holds for every input that the row lets in. -/
import Derived.Test.YtlgiibchnnaceaaSumsLaws
namespace Go.Proofs.Ytlgiibchnnaceaa.Pure
theorem SumsAdds : Go.Proofs.Ytlgiibchnnaceaa.P.sallyportlaw01_SumsAdds.Pure := Go.Proofs.Ytlgiibchnnaceaa.M.sumsAdds
end Go.Proofs.Ytlgiibchnnaceaa.Pure
