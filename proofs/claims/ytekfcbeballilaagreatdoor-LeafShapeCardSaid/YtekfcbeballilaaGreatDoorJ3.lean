import Derived.Test.YtekfcbeballilaaGreatDoorJ1
import Derived.Test.YtekfcbeballilaaGreatDoorJ2
import Derived.Test.YtekfcbeballilaaGreatDoorCa
import Derived.Test.YtekfcbeballilaaGreatDoorRows
import Derived.JoinedOf
section
namespace Go.Proofs.YtekfcbeballilaaGreatDoor
open Go
set_option maxRecDepth 100000
theorem leafShape_j25 : (Tryz.prog.mayEnter) = true := by kernel_rfl
end Go.Proofs.YtekfcbeballilaaGreatDoor
end
section
namespace Go.Proofs.YtekfcbeballilaaGreatDoor
open Go
set_option maxRecDepth 100000
theorem leafShape_j26 : ((Rows.leafShapeRow.lifted == Tryz.prog.liftsFinal)) = true := by kernel_rfl
theorem leafShape_j27 : ((Tryz.prog.make == some Rows.leafShapeRow.make)) = true := by kernel_rfl
theorem leafShape_j28 : ((Rows.leafShapeRow.kinds == (if Rows.leafShapeRow.domain.isEmpty then [] else Tryz.f4.params.toList.map fun t => match Tryz.prog.underlying t with | some (.int k) => some k | _ => none))) = true := by kernel_rfl
theorem leafShape_j29 : ((Rows.leafShapeRow.pinned == Rows.leafShapeRow.pinnedBy)) = true := by kernel_rfl
theorem leafShape_j30 : ((Rows.leafShapeRow.veiled == (Tryz.f4.params.toList ++ Rows.leafShapeSpec.plain.varTypes Tryz.prog ++ Tryz.f4.resultTypes.toList).any (Tryz.prog.veiledRec ·))) = true := by kernel_rfl
theorem leafShape_j31 : (Rows.leafShapeRow.veiledFits Tryz.prog Tryz.f4.params.toList (Tryz.f4.params.toList ++ Rows.leafShapeSpec.plain.varTypes Tryz.prog ++ Tryz.f4.resultTypes.toList)) = true := by kernel_rfl
end Go.Proofs.YtekfcbeballilaaGreatDoor
end
section
namespace Go.Proofs.YtekfcbeballilaaGreatDoor
set_option maxRecDepth 100000
open Go
theorem and2 {a b : Bool} (h : a = true) (k : b = true) : (a && b) = true := by rw [h, k]; rfl
theorem leafShape_joined : joinedFacts Tryz.prog 4 Tryz.f4 Rows.leafShapeSpec Rows.leafShapeRow = true := by
  unfold joinedFacts
  exact (and2 (and2 (and2 (and2 (and2 (and2 (and2 (and2 (and2 (and2 (and2 (and2 (and2 (and2 (and2 (and2 (and2 (and2 (and2 (and2 (and2 (and2 (and2 (and2 (and2 (and2 (and2 (and2 (and2 (and2 (and2 leafShape_j0 leafShape_j1) leafShape_j2) leafShape_j3) leafShape_j4) leafShape_j5) leafShape_j6) leafShape_j7) leafShape_j8) leafShape_j9) leafShape_j10) leafShape_j11) leafShape_j12) leafShape_j13) leafShape_j14) leafShape_j15) leafShape_j16) leafShape_j17) leafShape_j18) leafShape_j19) leafShape_j20) leafShape_j21) leafShape_j22) leafShape_j23) leafShape_j24) leafShape_j25) leafShape_j26) leafShape_j27) leafShape_j28) leafShape_j29) leafShape_j30) leafShape_j31)
end Go.Proofs.YtekfcbeballilaaGreatDoor
end
section
namespace Go.Proofs.YtekfcbeballilaaGreatDoor
open Go Go.ChangeShapes Go.WideShapes Go.ChangeAt Go.RowKit
set_option maxHeartbeats 4000000
theorem leafShape_said : Rows.LeafShapeSaid :=
  OpenClaim.holds_of_wide 4 Tryz.f4 rfl rfl rfl rfl rfl rfl rfl ⟨rfl, rfl, rfl, rfl, rfl⟩ rfl rfl rfl rfl rfl (by kernel_rfl) Tryz.func4 leafShape_joined
    (of_decide_eq_true (by kernel_rfl)) (by unfold Func.isWrapper; first | (rw [if_pos (by decide +kernel)]; kernel_rfl) | (rw [if_neg (by decide +kernel)]; exact ⟨rfl, rfl⟩))
    (fun os started H enc _ => lifted os started H enc)
end Go.Proofs.YtekfcbeballilaaGreatDoor
end
