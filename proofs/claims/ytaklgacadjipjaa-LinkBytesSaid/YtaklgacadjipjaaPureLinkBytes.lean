/- The pure statement of LinkBytes holds for every input that the row lets in. -/
import Derived.Test.YtaklgacadjipjaaLinkLaws
namespace Go.Proofs.Ytaklgacadjipjaa.Pure
theorem LinkBytes : Go.Proofs.Ytaklgacadjipjaa.P.sallyportlaw05_LinkBytes.Pure := Go.Proofs.Ytaklgacadjipjaa.M.linkBytesLaw
end Go.Proofs.Ytaklgacadjipjaa.Pure
