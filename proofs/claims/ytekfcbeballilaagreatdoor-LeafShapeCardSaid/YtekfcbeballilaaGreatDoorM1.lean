import Derived.Test.YtekfcbeballilaaGreatDoorTie
import Derived.ProofKit
section
namespace Go.Proofs.YtekfcbeballilaaGreatDoor
open Go
set_option maxRecDepth 100000
theorem leafShape_k0 : Rows.leafShapeRow.wfByText (OpenSpec.ofChange Rows.leafShapeSpec) = true := by kernel_rfl
end Go.Proofs.YtekfcbeballilaaGreatDoor
end
section
namespace Go.Proofs.YtekfcbeballilaaGreatDoor
open Go
set_option maxRecDepth 100000
theorem leafShape_k1 : Tryz.pinned.checked.prog.mainIs = some (true, "4ec451af8772369cfe5796bfb7c5e79511e3a50d2e00bebaf240a11d0685e2ce".toList) := by kernel_rfl
end Go.Proofs.YtekfcbeballilaaGreatDoor
end
section
namespace Go.Proofs.YtekfcbeballilaaGreatDoor
open Go
set_option maxRecDepth 100000
theorem leafShape_k2 : true = Tryz.prog.looks [] := by kernel_rfl
end Go.Proofs.YtekfcbeballilaaGreatDoor
end
section
namespace Go.Proofs.YtekfcbeballilaaGreatDoor
open Go
set_option maxRecDepth 100000
theorem leafShape_k3 : ([3, 9].all fun u => !Tryz.prog.wantsStandIn u) = true := by kernel_rfl
end Go.Proofs.YtekfcbeballilaaGreatDoor
end
