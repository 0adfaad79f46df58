import Derived.Test.YtekfcbeballilaaGreatDoorRows
import Derived.JoinedOf
section
namespace Go.Proofs.YtekfcbeballilaaGreatDoor
open Go
set_option maxRecDepth 100000
theorem leafShape_j0 : (Rows.leafShapeRow.wf (OpenSpec.ofChange Rows.leafShapeSpec)) = true := by kernel_rfl
theorem leafShape_j1 : (laidOutB Tryz.prog) = true := by kernel_rfl
theorem leafShape_j2 : (mapsRowed Tryz.prog) = true := by kernel_rfl
theorem leafShape_j3 : (Tryz.f4.params.all (Tryz.prog.readableRec ·)) = true := by kernel_rfl
theorem leafShape_j4 : (namedTie Tryz.prog Rows.leafShapeRow.named Rows.leafShapeSpec.vars) = true := by kernel_rfl
theorem leafShape_j5 : ((Rows.leafShapeRow.stops == [])) = true := by kernel_rfl
theorem leafShape_j6 : ((Tryz.prog.stops == [])) = true := by kernel_rfl
theorem leafShape_j7 : ((Rows.leafShapeRow.knobs == [])) = true := by kernel_rfl
theorem leafShape_j8 : ((Tryz.prog.stopKnobs == [])) = true := by kernel_rfl
end Go.Proofs.YtekfcbeballilaaGreatDoor
end
section
namespace Go.Proofs.YtekfcbeballilaaGreatDoor
open Go
set_option maxRecDepth 100000
theorem leafShape_j9 : ((Rows.leafShapeRow.inPlace == Tryz.prog.inPlace 4)) = true := by kernel_rfl
end Go.Proofs.YtekfcbeballilaaGreatDoor
end
section
namespace Go.Proofs.YtekfcbeballilaaGreatDoor
open Go
set_option maxRecDepth 100000
theorem leafShape_j10 : ((Rows.leafShapeRow.unfollowed == Tryz.prog.unfollowed 4)) = true := by kernel_rfl
end Go.Proofs.YtekfcbeballilaaGreatDoor
end
section
namespace Go.Proofs.YtekfcbeballilaaGreatDoor
open Go
set_option maxRecDepth 100000
theorem leafShape_j11 : ((Rows.leafShapeRow.recurses == Tryz.prog.recurses 4)) = true := by kernel_rfl
end Go.Proofs.YtekfcbeballilaaGreatDoor
end
