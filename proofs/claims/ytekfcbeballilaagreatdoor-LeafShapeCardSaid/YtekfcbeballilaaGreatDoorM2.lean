import Derived.Test.YtekfcbeballilaaGreatDoorTie
import Derived.ProofKit
section
namespace Go.Proofs.YtekfcbeballilaaGreatDoor
open Go
set_option maxRecDepth 100000
theorem leafShape_k4 : ((Tryz.prog.closure 4).any fun g => (Tryz.prog.funcs[g]?).any Func.goes) = false := by kernel_rfl
end Go.Proofs.YtekfcbeballilaaGreatDoor
end
section
namespace Go.Proofs.YtekfcbeballilaaGreatDoor
open Go
set_option maxRecDepth 100000
theorem leafShape_k5 : Tryz.prog.funcNamed "victualler/victuallerlaw14.LeafShape" = some 4 := by kernel_rfl
end Go.Proofs.YtekfcbeballilaaGreatDoor
end
section
namespace Go.Proofs.YtekfcbeballilaaGreatDoor
open Go
set_option maxRecDepth 100000
theorem leafShape_k6 : Tryz.prog.funcs.any Func.goes = false := by kernel_rfl
end Go.Proofs.YtekfcbeballilaaGreatDoor
end
