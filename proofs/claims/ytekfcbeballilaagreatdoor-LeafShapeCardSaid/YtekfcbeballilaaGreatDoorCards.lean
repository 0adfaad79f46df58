/-
  DERIVED. GIVEN WITH THE SEED: THE CARDS: each row of YtekfcbeballilaaGreatDoorRows.lean that lists a variable, with what it lists TIED to the program's text (the seventh form; the later family's looks); each row that meets fmt, with fmt's text TOLD by the authors' own Lean function (tested against real Go, not proved from fmt's source: count such statements apart). THE CARD IS WHAT COUNTS. Prove the row's statement (the work); the ties are given (YtekfcbeballilaaGreatDoorTie.lean); close each card by the builder's one call (the guide's Derived/Test/ToyasCard.lean, 'card_holds'). Laid BY PROGRAM, IN A SANDBOX (cutbox-door.mjs). By AI agents, Wed Nov 11 2026. No macro, syntax, notation, axiom, sorry.
-/
import Derived.Test.YtekfcbeballilaaGreatDoorRows
import GoSem.ClaimSeven
namespace Go.Proofs.YtekfcbeballilaaGreatDoor
namespace Rows

/-- THE TIED CARD OF 'victuallerlaw14.MipBound'. -/
def mipBoundCard : Claim7 := { stood := { row := mipBoundRow, standIns := [], harness := (true, "4ec451af8772369cfe5796bfb7c5e79511e3a50d2e00bebaf240a11d0685e2ce"), looks := true }, kinds := [], alts := [], laidByText := true, laidKinds := [.data, .data, .data, .data, .sentinel, .sentinel, .pinned], laidTests := true, laidLooks := .later }
def MipBoundCardSaid : Prop := Claim7.holds Tryz.pinned (.plain (OpenSpec.ofChange mipBoundSpec)) mipBoundCard

/-- THE TIED CARD OF 'victuallerlaw14.LeafShape'. -/
def leafShapeCard : Claim7 := { stood := { row := leafShapeRow, standIns := [], harness := (true, "4ec451af8772369cfe5796bfb7c5e79511e3a50d2e00bebaf240a11d0685e2ce"), looks := true }, kinds := [], alts := [], laidByText := true, laidKinds := [.data, .data, .data, .data, .sentinel, .sentinel, .pinned], laidTests := true, laidLooks := .later }
def LeafShapeCardSaid : Prop := Claim7.holds Tryz.pinned (.plain (OpenSpec.ofChange leafShapeSpec)) leafShapeCard

/-- THE TIED CARD OF 'victuallerlaw14.LeafDeep'. -/
def leafDeepCard : Claim7 := { stood := { row := leafDeepRow, standIns := [], harness := (true, "4ec451af8772369cfe5796bfb7c5e79511e3a50d2e00bebaf240a11d0685e2ce"), looks := true }, kinds := [], alts := [], laidByText := true, laidKinds := [.data, .data, .data, .data, .sentinel, .sentinel, .pinned], laidTests := true, laidLooks := .later }
def LeafDeepCardSaid : Prop := Claim7.holds Tryz.pinned (.plain (OpenSpec.ofChange leafDeepSpec)) leafDeepCard

/-- THE SECOND FORM's CARD OF 'victuallerlaw14.MipBound'. -/
def mipBoundUptoCard : Claim7 := { stood := { row := mipBoundUptoRow, standIns := [], harness := (true, "4ec451af8772369cfe5796bfb7c5e79511e3a50d2e00bebaf240a11d0685e2ce"), looks := true }, kinds := [], alts := [], laidByText := true, laidKinds := [.data, .data, .data, .data, .sentinel, .sentinel, .pinned], laidTests := true, laidLooks := .later }
def MipBoundUptoCardSaid : Prop := Claim7.holds Tryz.pinned (.plain (OpenSpec.upto mipBoundSpec)) mipBoundUptoCard

/-- THE SECOND FORM's CARD OF 'victuallerlaw14.LeafShape'. -/
def leafShapeUptoCard : Claim7 := { stood := { row := leafShapeUptoRow, standIns := [], harness := (true, "4ec451af8772369cfe5796bfb7c5e79511e3a50d2e00bebaf240a11d0685e2ce"), looks := true }, kinds := [], alts := [], laidByText := true, laidKinds := [.data, .data, .data, .data, .sentinel, .sentinel, .pinned], laidTests := true, laidLooks := .later }
def LeafShapeUptoCardSaid : Prop := Claim7.holds Tryz.pinned (.plain (OpenSpec.upto leafShapeSpec)) leafShapeUptoCard

/-- THE SECOND FORM's CARD OF 'victuallerlaw14.LeafDeep'. -/
def leafDeepUptoCard : Claim7 := { stood := { row := leafDeepUptoRow, standIns := [], harness := (true, "4ec451af8772369cfe5796bfb7c5e79511e3a50d2e00bebaf240a11d0685e2ce"), looks := true }, kinds := [], alts := [], laidByText := true, laidKinds := [.data, .data, .data, .data, .sentinel, .sentinel, .pinned], laidTests := true, laidLooks := .later }
def LeafDeepUptoCardSaid : Prop := Claim7.holds Tryz.pinned (.plain (OpenSpec.upto leafDeepSpec)) leafDeepUptoCard
end Rows
end Go.Proofs.YtekfcbeballilaaGreatDoor
