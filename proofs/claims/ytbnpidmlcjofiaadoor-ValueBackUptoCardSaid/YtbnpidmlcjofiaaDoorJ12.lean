/- value: all that the laws lean on. -/
import Derived.Test.YtbnpidmlcjofiaaDoorJ10
import Derived.Test.YtbnpidmlcjofiaaDoorJ11
import Derived.Test.YtbnpidmlcjofiaaDoorJ09
import Derived.Test.YtbnpidmlcjofiaaDoorJ07
namespace Go.Proofs.YtbnpidmlcjofiaaDoor
theorem all_here : True := trivial
end Go.Proofs.YtbnpidmlcjofiaaDoor

