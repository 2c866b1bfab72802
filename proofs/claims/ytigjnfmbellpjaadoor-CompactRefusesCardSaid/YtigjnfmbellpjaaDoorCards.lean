/-
  DERIVED. GIVEN WITH THE SEED: THE CARDS: each row of YtigjnfmbellpjaaDoorRows.lean that lists a variable, with what it lists TIED to the program's text (the seventh form; the later family's looks); each row that meets fmt, with fmt's text TOLD by the authors' own Lean function (tested against real Go, not proved from fmt's source: count such statements apart). THE CARD IS WHAT COUNTS. Prove the row's statement (the work); the ties are given (YtigjnfmbellpjaaDoorTie.lean); close each card by the builder's one call (the guide's Derived/Test/ToyasCard.lean, 'card_holds'). Laid BY PROGRAM, IN A SANDBOX (cutbox-door.mjs). By AI agents, Wed Nov 11 2026. No macro, syntax, notation, axiom, sorry.
-/
import Derived.Test.YtigjnfmbellpjaaDoorRows
import GoSem.ClaimSeven
namespace Go.Proofs.YtigjnfmbellpjaaDoor
namespace Rows

/-- THE TIED CARD OF 'cartularytop.TopForgedLeaf'. -/
def topForgedLeafCard : Claim7 := { stood := { row := topForgedLeafRow, standIns := [], harness := (true, "5481c0276bf433269109305c281bd6f311a8e13e5c2a8b2fd09585348de9280e"), looks := true }, kinds := [], alts := [], laidByText := true, laidKinds := [.sentinel, .sentinel, .sentinel, .sentinel, .data], laidTests := true, laidLooks := .later }
def TopForgedLeafCardSaid : Prop := Claim7.holds Tryd.pinned (.plain (OpenSpec.ofChange topForgedLeafSpec)) topForgedLeafCard

/-- THE TIED CARD OF 'cartularylaw09.CompactRoot'. -/
def compactRootCard : Claim7 := { stood := { row := compactRootRow, standIns := [], harness := (true, "5481c0276bf433269109305c281bd6f311a8e13e5c2a8b2fd09585348de9280e"), looks := true }, kinds := [], alts := [], laidByText := true, laidKinds := [.data, .sentinel, .sentinel, .sentinel, .data], laidTests := true, laidLooks := .later }
def CompactRootCardSaid : Prop := Claim7.holds Tryd.pinned (.plain (OpenSpec.ofChange compactRootSpec)) compactRootCard

/-- THE TIED CARD OF 'cartularylaw09.CompactCuts'. -/
def compactCutsCard : Claim7 := { stood := { row := compactCutsRow, standIns := [], harness := (true, "5481c0276bf433269109305c281bd6f311a8e13e5c2a8b2fd09585348de9280e"), looks := true }, kinds := [], alts := [], laidByText := true, laidKinds := [.data, .sentinel, .sentinel, .sentinel, .sentinel, .data], laidTests := true, laidLooks := .later }
def CompactCutsCardSaid : Prop := Claim7.holds Tryd.pinned (.plain (OpenSpec.ofChange compactCutsSpec)) compactCutsCard

/-- THE TIED CARD OF 'cartularytop.TopForgedRoot'. -/
def topForgedRootCard : Claim7 := { stood := { row := topForgedRootRow, standIns := [], harness := (true, "5481c0276bf433269109305c281bd6f311a8e13e5c2a8b2fd09585348de9280e"), looks := true }, kinds := [], alts := [], laidByText := true, laidKinds := [.sentinel, .sentinel, .sentinel, .sentinel, .data], laidTests := true, laidLooks := .later }
def TopForgedRootCardSaid : Prop := Claim7.holds Tryd.pinned (.plain (OpenSpec.ofChange topForgedRootSpec)) topForgedRootCard

/-- THE TIED CARD OF 'cartularylaw09.CompactRefuses'. -/
def compactRefusesCard : Claim7 := { stood := { row := compactRefusesRow, standIns := [], harness := (true, "5481c0276bf433269109305c281bd6f311a8e13e5c2a8b2fd09585348de9280e"), looks := true }, kinds := [], alts := [], laidByText := true, laidKinds := [.data, .handle, .sentinel, .sentinel, .sentinel, .sentinel, .sentinel, .sentinel, .sentinel, .sentinel, .sentinel, .sentinel, .sentinel, .sentinel, .sentinel, .sentinel, .sentinel, .sentinel, .data], laidTests := true, laidLooks := .later }
def CompactRefusesCardSaid : Prop := Claim7.holds Tryd.pinned (.plain (OpenSpec.ofChange compactRefusesSpec)) compactRefusesCard

/-- THE SECOND FORM's CARD OF 'cartularytop.TopForgedLeaf'. -/
def topForgedLeafUptoCard : Claim7 := { stood := { row := topForgedLeafUptoRow, standIns := [], harness := (true, "5481c0276bf433269109305c281bd6f311a8e13e5c2a8b2fd09585348de9280e"), looks := true }, kinds := [], alts := [], laidByText := true, laidKinds := [.sentinel, .sentinel, .sentinel, .sentinel, .data], laidTests := true, laidLooks := .later }
def TopForgedLeafUptoCardSaid : Prop := Claim7.holds Tryd.pinned (.plain (OpenSpec.upto topForgedLeafSpec)) topForgedLeafUptoCard

/-- THE SECOND FORM's CARD OF 'cartularylaw09.CompactRoot'. -/
def compactRootUptoCard : Claim7 := { stood := { row := compactRootUptoRow, standIns := [], harness := (true, "5481c0276bf433269109305c281bd6f311a8e13e5c2a8b2fd09585348de9280e"), looks := true }, kinds := [], alts := [], laidByText := true, laidKinds := [.data, .sentinel, .sentinel, .sentinel, .data], laidTests := true, laidLooks := .later }
def CompactRootUptoCardSaid : Prop := Claim7.holds Tryd.pinned (.plain (OpenSpec.upto compactRootSpec)) compactRootUptoCard

/-- THE SECOND FORM's CARD OF 'cartularylaw09.CompactCuts'. -/
def compactCutsUptoCard : Claim7 := { stood := { row := compactCutsUptoRow, standIns := [], harness := (true, "5481c0276bf433269109305c281bd6f311a8e13e5c2a8b2fd09585348de9280e"), looks := true }, kinds := [], alts := [], laidByText := true, laidKinds := [.data, .sentinel, .sentinel, .sentinel, .sentinel, .data], laidTests := true, laidLooks := .later }
def CompactCutsUptoCardSaid : Prop := Claim7.holds Tryd.pinned (.plain (OpenSpec.upto compactCutsSpec)) compactCutsUptoCard

/-- THE SECOND FORM's CARD OF 'cartularytop.TopForgedRoot'. -/
def topForgedRootUptoCard : Claim7 := { stood := { row := topForgedRootUptoRow, standIns := [], harness := (true, "5481c0276bf433269109305c281bd6f311a8e13e5c2a8b2fd09585348de9280e"), looks := true }, kinds := [], alts := [], laidByText := true, laidKinds := [.sentinel, .sentinel, .sentinel, .sentinel, .data], laidTests := true, laidLooks := .later }
def TopForgedRootUptoCardSaid : Prop := Claim7.holds Tryd.pinned (.plain (OpenSpec.upto topForgedRootSpec)) topForgedRootUptoCard

/-- THE SECOND FORM's CARD OF 'cartularylaw09.CompactRefuses'. -/
def compactRefusesUptoCard : Claim7 := { stood := { row := compactRefusesUptoRow, standIns := [], harness := (true, "5481c0276bf433269109305c281bd6f311a8e13e5c2a8b2fd09585348de9280e"), looks := true }, kinds := [], alts := [], laidByText := true, laidKinds := [.data, .handle, .sentinel, .sentinel, .sentinel, .sentinel, .sentinel, .sentinel, .sentinel, .sentinel, .sentinel, .sentinel, .sentinel, .sentinel, .sentinel, .sentinel, .sentinel, .sentinel, .data], laidTests := true, laidLooks := .later }
def CompactRefusesUptoCardSaid : Prop := Claim7.holds Tryd.pinned (.plain (OpenSpec.upto compactRefusesSpec)) compactRefusesUptoCard
end Rows
end Go.Proofs.YtigjnfmbellpjaaDoor
