/- The pure statement of SumsNames holds for every input that the row lets in. -/
import Derived.Test.YtlgiibchnnaceaaSumsNamesLaw
namespace Go.Proofs.Ytlgiibchnnaceaa.Pure
theorem SumsNames : Go.Proofs.Ytlgiibchnnaceaa.P.sallyportlaw01_SumsNames.Pure := Go.Proofs.Ytlgiibchnnaceaa.M.sumsNames
end Go.Proofs.Ytlgiibchnnaceaa.Pure
