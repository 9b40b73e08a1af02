/- proc: all that the laws lean on. -/
import Derived.Test.YtbakfkhmopebnaaJ11
import Derived.Test.YtbakfkhmopebnaaJ12
namespace Go.Proofs.Ytbakfkhmopebnaa
theorem all_here : True := trivial
end Go.Proofs.Ytbakfkhmopebnaa

