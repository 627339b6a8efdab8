/- The pure statement of LinkNames holds for every input that the row lets in. -/
import Derived.Test.YtaklgacadjipjaaLinkNamesLaw
namespace Go.Proofs.Ytaklgacadjipjaa.Pure
theorem LinkNames : Go.Proofs.Ytaklgacadjipjaa.P.sallyportlaw05_LinkNames.Pure := Go.Proofs.Ytaklgacadjipjaa.M.namesLaw
end Go.Proofs.Ytaklgacadjipjaa.Pure
