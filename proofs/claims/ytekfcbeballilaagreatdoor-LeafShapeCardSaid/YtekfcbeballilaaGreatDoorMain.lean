/- Proved: the card of law14.LeafShape: for every int n and every string s the call returns true, and both arguments read afterwards as they did before.
   Conditions: those of the given row alone (the package variables that it lists hold what the program's text lays). -/
import Derived.Test.YtekfcbeballilaaGreatDoorJ3
import Derived.Test.YtekfcbeballilaaGreatDoorM1
import Derived.Test.YtekfcbeballilaaGreatDoorM2
section
namespace Go.Proofs.YtekfcbeballilaaGreatDoor
open Go Go.ChangeShapes Go.WideShapes Go.ChangeAt Go.RowKit
set_option maxHeartbeats 4000000
set_option maxRecDepth 100000
theorem leafShape_goes : false = Rows.leafShapeRow.goesBy Tryz.prog := by
  have h : Tryz.prog.goes 4 = false := by unfold Program.goes; rw [leafShape_k4, leafShape_k6, Bool.and_false]; rfl
  show false = ((Tryz.prog.funcNamed "victualler/victuallerlaw14.LeafShape").any Tryz.prog.goes || false)
  rw [leafShape_k5]
  show false = (Tryz.prog.goes 4 || false)
  rw [h]; rfl
theorem leafShape_card : Rows.LeafShapeCardSaid :=
  Claim7.holds_tied_plain_at .later [] [.data, .data, .data, .data, .sentinel, .sentinel, .pinned] true (true, "4ec451af8772369cfe5796bfb7c5e79511e3a50d2e00bebaf240a11d0685e2ce") true leafShape_said (fun _ h => by cases h) leafShape_k0 (fun _ h => by cases h) leafShape_row_tie rfl ⟨rfl, rfl⟩ leafShape_k1 rfl
    (fun f fn hf hfn => by
      obtain rfl : f = 4 := Option.some.inj (leafShape_k5.symm.trans hf) |>.symm
      obtain rfl : fn = Tryz.f4 := (Option.some.inj (Tryz.func4.symm.trans hfn)).symm
      exact ⟨leafShape_k2, fun j t ht => by
        rw [Tryz.params4] at ht
        have hm : t ∈ [3, 9] := by simpa using Array.mem_of_getElem? ht
        exact (show Tryz.prog.wantsStandIn t = false by simpa using List.all_eq_true.1 leafShape_k3 t hm)⟩)
    leafShape_goes
end Go.Proofs.YtekfcbeballilaaGreatDoor
end
