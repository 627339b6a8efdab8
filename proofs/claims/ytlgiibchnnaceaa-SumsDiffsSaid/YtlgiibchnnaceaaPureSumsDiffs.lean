/- The pure statement of SumsDiffs holds for every input that the row lets in. -/
import Derived.Test.YtlgiibchnnaceaaSumsLaws
namespace Go.Proofs.Ytlgiibchnnaceaa.Pure
theorem SumsDiffs : Go.Proofs.Ytlgiibchnnaceaa.P.sallyportlaw01_SumsDiffs.Pure := Go.Proofs.Ytlgiibchnnaceaa.M.sumsDiffs
end Go.Proofs.Ytlgiibchnnaceaa.Pure
