import Derived.Test.YtekfcbeballilaaGreatDoorRows
import Derived.JoinedOf
section
namespace Go.Proofs.YtekfcbeballilaaGreatDoor
open Go
set_option maxRecDepth 100000
theorem leafShape_j12 : ((Rows.leafShapeRow.named == Tryz.prog.varsNamed 4)) = true := by kernel_rfl
end Go.Proofs.YtekfcbeballilaaGreatDoor
end
section
namespace Go.Proofs.YtekfcbeballilaaGreatDoor
open Go
set_option maxRecDepth 100000
theorem leafShape_j13 : ((Rows.leafShapeRow.maps == (Tryz.f4.params.toList ++ Rows.leafShapeSpec.plain.varTypes Tryz.prog).any (Tryz.prog.mapsRec ·))) = true := by kernel_rfl
theorem leafShape_j14 : ((Rows.leafShapeRow.ifaces == (Tryz.f4.params.toList ++ Rows.leafShapeSpec.plain.varTypes Tryz.prog).any (Tryz.prog.ifacesRec ·))) = true := by kernel_rfl
theorem leafShape_j15 : ((Rows.leafShapeRow.mapsOut == Tryz.prog.mapsAmong Tryz.f4.resultTypes.toList)) = true := by kernel_rfl
theorem leafShape_j16 : ((Rows.leafShapeRow.loops == (Tryz.f4.params.toList ++ Rows.leafShapeSpec.plain.varTypes Tryz.prog).any (Tryz.prog.loopsFrom ·))) = true := by kernel_rfl
theorem leafShape_j17 : ((Rows.leafShapeRow.wideKeys == (Tryz.f4.params.toList ++ Rows.leafShapeSpec.plain.varTypes Tryz.prog ++ Tryz.f4.resultTypes.toList).any (Tryz.prog.wideKeysFrom ·))) = true := by kernel_rfl
theorem leafShape_j18 : (Rows.leafShapeSpec.vars.all (Tryz.prog.varReadable ·)) = true := by kernel_rfl
theorem leafShape_j19 : (Tryz.f4.resultTypes.all (fun t => Tryz.prog.readableRec t && decide (t < Tryz.prog.types.size))) = true := by kernel_rfl
theorem leafShape_j20 : ((Rows.leafShapeRow.ifacesOut == Tryz.f4.resultTypes.toList.any (Tryz.prog.ifacesRec ·))) = true := by kernel_rfl
theorem leafShape_j21 : ((Rows.leafShapeRow.loopsOut == Tryz.f4.resultTypes.toList.any (Tryz.prog.loopsFrom ·))) = true := by kernel_rfl
theorem leafShape_j22 : ((Rows.leafShapeRow.plainKeys == Tryz.prog.plainKeys)) = true := by kernel_rfl
theorem leafShape_j23 : (Rows.leafShapeRow.shortTexts.isNone) = true := by kernel_rfl
end Go.Proofs.YtekfcbeballilaaGreatDoor
end
section
namespace Go.Proofs.YtekfcbeballilaaGreatDoor
open Go
set_option maxRecDepth 100000
theorem leafShape_j24 : (Tryz.prog.stopsHeard) = true := by kernel_rfl
end Go.Proofs.YtekfcbeballilaaGreatDoor
end
