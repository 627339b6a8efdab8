/- The pure statement of SumsSums holds for every input that the row lets in. -/
import Derived.Test.YtlgiibchnnaceaaSumsLaws
namespace Go.Proofs.Ytlgiibchnnaceaa.Pure
theorem SumsSums : Go.Proofs.Ytlgiibchnnaceaa.P.sallyportlaw01_SumsSums.Pure := Go.Proofs.Ytlgiibchnnaceaa.M.sumsSums
end Go.Proofs.Ytlgiibchnnaceaa.Pure
