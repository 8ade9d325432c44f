/-
  DERIVED. GIVEN WITH THE SEED: THE CARDS: each row of YtfnmagjngnpokaaDoorRows.lean that lists a variable, with what it lists TIED to the program's text (the seventh form; the later family's looks); each row that meets fmt, with fmt's text TOLD by the authors' own Lean function (tested against real Go, not proved from fmt's source: count such statements apart). THE CARD IS WHAT COUNTS. Prove the row's statement (the work); the ties are given (YtfnmagjngnpokaaDoorTie.lean); close each card by the builder's one call (the guide's Derived/Test/ToyasCard.lean, 'card_holds'). Laid BY PROGRAM, IN A SANDBOX (cutbox-door.mjs). By AI agents, Wed Nov 11 2026. No macro, syntax, notation, axiom, sorry.
-/
import Derived.Test.YtfnmagjngnpokaaDoorRows
import GoSem.ClaimSeven
namespace Go.Proofs.YtfnmagjngnpokaaDoor
namespace Rows

/-- THE TIED CARD OF 'encorelaw08.EventChecks'. -/
def eventChecksCard : Claim7 := { stood := { row := eventChecksRow, standIns := [], harness := (true, "f3d22aa07fd992f5405f480118f8c8039e1d8dd7b9c89a5cc855e83c51ecc747"), looks := false }, kinds := [], alts := [], laidByText := true, laidKinds := [.data], laidTests := true, laidLooks := .later }
def EventChecksCardSaid : Prop := Claim7.holds Tryd.pinned (.plain (OpenSpec.ofChange eventChecksSpec)) eventChecksCard

/-- THE TIED CARD OF 'encorelaw08.EventReads'. -/
def eventReadsCard : Claim7 := { stood := { row := eventReadsRow, standIns := [], harness := (true, "f3d22aa07fd992f5405f480118f8c8039e1d8dd7b9c89a5cc855e83c51ecc747"), looks := false }, kinds := [], alts := [], laidByText := true, laidKinds := [.data], laidTests := true, laidLooks := .later }
def EventReadsCardSaid : Prop := Claim7.holds Tryd.pinned (.plain (OpenSpec.ofChange eventReadsSpec)) eventReadsCard

/-- THE TIED CARD OF 'encorelaw08.EventShort'. -/
def eventShortCard : Claim7 := { stood := { row := eventShortRow, standIns := [], harness := (true, "f3d22aa07fd992f5405f480118f8c8039e1d8dd7b9c89a5cc855e83c51ecc747"), looks := false }, kinds := [], alts := [], laidByText := true, laidKinds := [.data], laidTests := true, laidLooks := .later }
def EventShortCardSaid : Prop := Claim7.holds Tryd.pinned (.plain (OpenSpec.ofChange eventShortSpec)) eventShortCard

/-- THE TIED CARD OF 'encorelaw08.EventVersion'. -/
def eventVersionCard : Claim7 := { stood := { row := eventVersionRow, standIns := [], harness := (true, "f3d22aa07fd992f5405f480118f8c8039e1d8dd7b9c89a5cc855e83c51ecc747"), looks := false }, kinds := [], alts := [], laidByText := true, laidKinds := [.data], laidTests := true, laidLooks := .later }
def EventVersionCardSaid : Prop := Claim7.holds Tryd.pinned (.plain (OpenSpec.ofChange eventVersionSpec)) eventVersionCard

/-- THE TIED CARD OF 'encorelaw08.EventSame'. -/
def eventSameCard : Claim7 := { stood := { row := eventSameRow, standIns := [], harness := (true, "f3d22aa07fd992f5405f480118f8c8039e1d8dd7b9c89a5cc855e83c51ecc747"), looks := false }, kinds := [], alts := [], laidByText := true, laidKinds := [.data], laidTests := true, laidLooks := .later }
def EventSameCardSaid : Prop := Claim7.holds Tryd.pinned (.plain (OpenSpec.ofChange eventSameSpec)) eventSameCard

/-- THE TIED CARD OF 'encorelaw08.EventBack'. -/
def eventBackCard : Claim7 := { stood := { row := eventBackRow, standIns := [], harness := (true, "f3d22aa07fd992f5405f480118f8c8039e1d8dd7b9c89a5cc855e83c51ecc747"), looks := false }, kinds := [], alts := [], laidByText := true, laidKinds := [.data], laidTests := true, laidLooks := .later }
def EventBackCardSaid : Prop := Claim7.holds Tryd.pinned (.plain (OpenSpec.ofChange eventBackSpec)) eventBackCard

/-- THE TIED CARD OF 'encorelaw08.EventAgain'. -/
def eventAgainCard : Claim7 := { stood := { row := eventAgainRow, standIns := [], harness := (true, "f3d22aa07fd992f5405f480118f8c8039e1d8dd7b9c89a5cc855e83c51ecc747"), looks := false }, kinds := [], alts := [], laidByText := true, laidKinds := [.data], laidTests := true, laidLooks := .later }
def EventAgainCardSaid : Prop := Claim7.holds Tryd.pinned (.plain (OpenSpec.ofChange eventAgainSpec)) eventAgainCard

/-- THE SECOND FORM's CARD OF 'encorelaw08.EventChecks'. -/
def eventChecksUptoCard : Claim7 := { stood := { row := eventChecksUptoRow, standIns := [], harness := (true, "f3d22aa07fd992f5405f480118f8c8039e1d8dd7b9c89a5cc855e83c51ecc747"), looks := false }, kinds := [], alts := [], laidByText := true, laidKinds := [.data], laidTests := true, laidLooks := .later }
def EventChecksUptoCardSaid : Prop := Claim7.holds Tryd.pinned (.plain (OpenSpec.upto eventChecksSpec)) eventChecksUptoCard

/-- THE SECOND FORM's CARD OF 'encorelaw08.EventReads'. -/
def eventReadsUptoCard : Claim7 := { stood := { row := eventReadsUptoRow, standIns := [], harness := (true, "f3d22aa07fd992f5405f480118f8c8039e1d8dd7b9c89a5cc855e83c51ecc747"), looks := false }, kinds := [], alts := [], laidByText := true, laidKinds := [.data], laidTests := true, laidLooks := .later }
def EventReadsUptoCardSaid : Prop := Claim7.holds Tryd.pinned (.plain (OpenSpec.upto eventReadsSpec)) eventReadsUptoCard

/-- THE SECOND FORM's CARD OF 'encorelaw08.EventShort'. -/
def eventShortUptoCard : Claim7 := { stood := { row := eventShortUptoRow, standIns := [], harness := (true, "f3d22aa07fd992f5405f480118f8c8039e1d8dd7b9c89a5cc855e83c51ecc747"), looks := false }, kinds := [], alts := [], laidByText := true, laidKinds := [.data], laidTests := true, laidLooks := .later }
def EventShortUptoCardSaid : Prop := Claim7.holds Tryd.pinned (.plain (OpenSpec.upto eventShortSpec)) eventShortUptoCard

/-- THE SECOND FORM's CARD OF 'encorelaw08.EventVersion'. -/
def eventVersionUptoCard : Claim7 := { stood := { row := eventVersionUptoRow, standIns := [], harness := (true, "f3d22aa07fd992f5405f480118f8c8039e1d8dd7b9c89a5cc855e83c51ecc747"), looks := false }, kinds := [], alts := [], laidByText := true, laidKinds := [.data], laidTests := true, laidLooks := .later }
def EventVersionUptoCardSaid : Prop := Claim7.holds Tryd.pinned (.plain (OpenSpec.upto eventVersionSpec)) eventVersionUptoCard

/-- THE SECOND FORM's CARD OF 'encorelaw08.EventSame'. -/
def eventSameUptoCard : Claim7 := { stood := { row := eventSameUptoRow, standIns := [], harness := (true, "f3d22aa07fd992f5405f480118f8c8039e1d8dd7b9c89a5cc855e83c51ecc747"), looks := false }, kinds := [], alts := [], laidByText := true, laidKinds := [.data], laidTests := true, laidLooks := .later }
def EventSameUptoCardSaid : Prop := Claim7.holds Tryd.pinned (.plain (OpenSpec.upto eventSameSpec)) eventSameUptoCard

/-- THE SECOND FORM's CARD OF 'encorelaw08.EventBack'. -/
def eventBackUptoCard : Claim7 := { stood := { row := eventBackUptoRow, standIns := [], harness := (true, "f3d22aa07fd992f5405f480118f8c8039e1d8dd7b9c89a5cc855e83c51ecc747"), looks := false }, kinds := [], alts := [], laidByText := true, laidKinds := [.data], laidTests := true, laidLooks := .later }
def EventBackUptoCardSaid : Prop := Claim7.holds Tryd.pinned (.plain (OpenSpec.upto eventBackSpec)) eventBackUptoCard

/-- THE SECOND FORM's CARD OF 'encorelaw08.EventAgain'. -/
def eventAgainUptoCard : Claim7 := { stood := { row := eventAgainUptoRow, standIns := [], harness := (true, "f3d22aa07fd992f5405f480118f8c8039e1d8dd7b9c89a5cc855e83c51ecc747"), looks := false }, kinds := [], alts := [], laidByText := true, laidKinds := [.data], laidTests := true, laidLooks := .later }
def EventAgainUptoCardSaid : Prop := Claim7.holds Tryd.pinned (.plain (OpenSpec.upto eventAgainSpec)) eventAgainUptoCard
end Rows
end Go.Proofs.YtfnmagjngnpokaaDoor
