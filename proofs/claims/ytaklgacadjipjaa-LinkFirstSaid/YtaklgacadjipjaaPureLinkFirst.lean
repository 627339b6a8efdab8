/- The pure statement of LinkFirst holds for every input that the row lets in. -/
import Derived.Test.YtaklgacadjipjaaLinkLaws
namespace Go.Proofs.Ytaklgacadjipjaa.Pure
theorem LinkFirst : Go.Proofs.Ytaklgacadjipjaa.P.sallyportlaw05_LinkFirst.Pure := Go.Proofs.Ytaklgacadjipjaa.M.linkFirstLaw
end Go.Proofs.Ytaklgacadjipjaa.Pure
