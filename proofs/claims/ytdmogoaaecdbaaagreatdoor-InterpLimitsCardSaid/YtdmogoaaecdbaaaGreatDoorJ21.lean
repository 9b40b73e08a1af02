/- interp: all that the laws' texts share. -/
import Derived.Test.YtdmogoaaecdbaaaGreatDoorJ19
import Derived.Test.YtdmogoaaecdbaaaGreatDoorJ20
namespace Go.Proofs.YtdmogoaaecdbaaaGreatDoor
end Go.Proofs.YtdmogoaaecdbaaaGreatDoor

