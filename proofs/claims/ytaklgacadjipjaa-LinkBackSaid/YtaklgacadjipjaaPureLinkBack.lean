/- The pure statement of LinkBack holds for every input that the row lets in. -/
import Derived.Test.YtaklgacadjipjaaLinkBackLaw
namespace Go.Proofs.Ytaklgacadjipjaa.Pure
theorem LinkBack : Go.Proofs.Ytaklgacadjipjaa.P.sallyportlaw05_LinkBack.Pure := Go.Proofs.Ytaklgacadjipjaa.M.linkBackLaw
end Go.Proofs.Ytaklgacadjipjaa.Pure
