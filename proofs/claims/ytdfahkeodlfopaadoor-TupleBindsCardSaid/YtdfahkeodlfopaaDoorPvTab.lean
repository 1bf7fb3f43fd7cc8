import Derived.Test.YtdfahkeodlfopaaDoorProg
import Derived.Test.YtdfahkeodlfopaaDoorPvVal
namespace Go.Pv
open Go Go.Proofs
noncomputable def tbT : Tab := tkOf Tryd.prog
theorem tbT_ok : TabOk Tryd.prog tbT := fun _ _ h => h
end Go.Pv
