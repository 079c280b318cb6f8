/- What mess's check comes to. -/
import Derived.Test.YteeiacfddjhhkaaGreatDoorMsg
namespace Go.Proofs.YteeiacfddjhhkaaGreatDoor
open Go.RowKit
set_option maxRecDepth 100000

def CheckRet (m : PMsg) (w : World) (en : Ending) (w' : World) : Prop :=
  (mayM m = true ∧ en = .returned .nilIface ∧ Below w.heap.size w w') ∨ (mayM m = false ∧ ∃ (T : Nat) (b : Addr), en = .returned (.iface T (.pointer (some b))) ∧ Below w.heap.size w w')
end Go.Proofs.YteeiacfddjhhkaaGreatDoor
