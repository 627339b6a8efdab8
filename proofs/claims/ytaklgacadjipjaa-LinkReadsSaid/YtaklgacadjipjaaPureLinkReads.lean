/- The pure statement of LinkReads holds for every input that the row lets in. -/
import Derived.Test.YtaklgacadjipjaaLinkReadsLaw
namespace Go.Proofs.Ytaklgacadjipjaa.Pure
theorem LinkReads : Go.Proofs.Ytaklgacadjipjaa.P.sallyportlaw05_LinkReads.Pure := Go.Proofs.Ytaklgacadjipjaa.M.linkReadsLaw
end Go.Proofs.Ytaklgacadjipjaa.Pure
