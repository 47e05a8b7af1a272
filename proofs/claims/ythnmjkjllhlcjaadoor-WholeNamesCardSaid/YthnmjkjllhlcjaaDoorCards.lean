/-
  DERIVED. GIVEN WITH THE SEED: THE CARDS: each row of YthnmjkjllhlcjaaDoorRows.lean that lists a variable, with what it lists TIED to the program's text (the seventh form; the later family's looks); each row that meets fmt, with fmt's text TOLD by the authors' own Lean function (tested against real Go, not proved from fmt's source: count such statements apart). THE CARD IS WHAT COUNTS. Prove the row's statement (the work); the ties are given (YthnmjkjllhlcjaaDoorTie.lean); close each card by the builder's one call (the guide's Derived/Test/ToyasCard.lean, 'card_holds'). Laid BY PROGRAM, IN A SANDBOX (cutbox-door.mjs). By AI agents, Wed Nov 11 2026. No macro, syntax, notation, axiom, sorry.
-/
import Derived.Test.YthnmjkjllhlcjaaDoorRows
import GoSem.ClaimSeven
namespace Go.Proofs.YthnmjkjllhlcjaaDoor
namespace Rows

/-- THE TIED CARD OF 'trivetlaw01.WholeRing'. -/
def wholeRingCard : Claim7 := { stood := { row := wholeRingRow, standIns := [], harness := (true, "f6a5604ebb99b71dcc188d2b4cec2e32f5c40835c79362854719558cefee0bbb"), looks := false }, kinds := [], alts := [], laidByText := true, laidKinds := [.data], laidTests := true, laidLooks := .later }
def WholeRingCardSaid : Prop := Claim7.holds Tryd.pinned (.plain (OpenSpec.ofChange wholeRingSpec)) wholeRingCard

/-- THE TIED CARD OF 'trivetlaw01.WholeOrder'. -/
def wholeOrderCard : Claim7 := { stood := { row := wholeOrderRow, standIns := [], harness := (true, "f6a5604ebb99b71dcc188d2b4cec2e32f5c40835c79362854719558cefee0bbb"), looks := false }, kinds := [], alts := [], laidByText := true, laidKinds := [.data], laidTests := true, laidLooks := .later }
def WholeOrderCardSaid : Prop := Claim7.holds Tryd.pinned (.plain (OpenSpec.ofChange wholeOrderSpec)) wholeOrderCard

/-- THE TIED CARD OF 'trivetlaw01.WholeNames'. -/
def wholeNamesCard : Claim7 := { stood := { row := wholeNamesRow, standIns := [], harness := (true, "f6a5604ebb99b71dcc188d2b4cec2e32f5c40835c79362854719558cefee0bbb"), looks := false }, kinds := [], alts := [], laidByText := true, laidKinds := [.data], laidTests := true, laidLooks := .later }
def WholeNamesCardSaid : Prop := Claim7.holds Tryd.pinned (.plain (OpenSpec.ofChange wholeNamesSpec)) wholeNamesCard

/-- THE TIED CARD OF 'trivetlaw01.WholeFloats'. -/
def wholeFloatsCard : Claim7 := { stood := { row := wholeFloatsRow, standIns := [], harness := (true, "f6a5604ebb99b71dcc188d2b4cec2e32f5c40835c79362854719558cefee0bbb"), looks := false }, kinds := [], alts := [], laidByText := true, laidKinds := [.data], laidTests := true, laidLooks := .later }
def WholeFloatsCardSaid : Prop := Claim7.holds Tryd.pinned (.plain (OpenSpec.ofChange wholeFloatsSpec)) wholeFloatsCard

/-- THE TIED CARD OF 'trivetlaw01.WholeReckons'. -/
def wholeReckonsCard : Claim7 := { stood := { row := wholeReckonsRow, standIns := [], harness := (true, "f6a5604ebb99b71dcc188d2b4cec2e32f5c40835c79362854719558cefee0bbb"), looks := false }, kinds := [], alts := [], laidByText := true, laidKinds := [.data], laidTests := true, laidLooks := .later }
def WholeReckonsCardSaid : Prop := Claim7.holds Tryd.pinned (.plain (OpenSpec.ofChange wholeReckonsSpec)) wholeReckonsCard

/-- THE TIED CARD OF 'trivetlaw03.ExpandAdds'. -/
def expandAddsCard : Claim7 := { stood := { row := expandAddsRow, standIns := [], harness := (true, "f6a5604ebb99b71dcc188d2b4cec2e32f5c40835c79362854719558cefee0bbb"), looks := false }, kinds := [], alts := [], laidByText := true, laidKinds := [.data], laidTests := true, laidLooks := .later }
def ExpandAddsCardSaid : Prop := Claim7.holds Tryd.pinned (.plain (OpenSpec.ofChange expandAddsSpec)) expandAddsCard

/-- THE TIED CARD OF 'trivetlaw03.ExpandSigns'. -/
def expandSignsCard : Claim7 := { stood := { row := expandSignsRow, standIns := [], harness := (true, "f6a5604ebb99b71dcc188d2b4cec2e32f5c40835c79362854719558cefee0bbb"), looks := false }, kinds := [], alts := [], laidByText := true, laidKinds := [.data], laidTests := true, laidLooks := .later }
def ExpandSignsCardSaid : Prop := Claim7.holds Tryd.pinned (.plain (OpenSpec.ofChange expandSignsSpec)) expandSignsCard

/-- THE TIED CARD OF 'trivetlaw03.ExpandMuls'. -/
def expandMulsCard : Claim7 := { stood := { row := expandMulsRow, standIns := [], harness := (true, "f6a5604ebb99b71dcc188d2b4cec2e32f5c40835c79362854719558cefee0bbb"), looks := false }, kinds := [], alts := [], laidByText := true, laidKinds := [.data], laidTests := true, laidLooks := .later }
def ExpandMulsCardSaid : Prop := Claim7.holds Tryd.pinned (.plain (OpenSpec.ofChange expandMulsSpec)) expandMulsCard

/-- THE TIED CARD OF 'trivetlaw03.ExpandWhole'. -/
def expandWholeCard : Claim7 := { stood := { row := expandWholeRow, standIns := [], harness := (true, "f6a5604ebb99b71dcc188d2b4cec2e32f5c40835c79362854719558cefee0bbb"), looks := false }, kinds := [], alts := [], laidByText := true, laidKinds := [.data], laidTests := true, laidLooks := .later }
def ExpandWholeCardSaid : Prop := Claim7.holds Tryd.pinned (.plain (OpenSpec.ofChange expandWholeSpec)) expandWholeCard

/-- THE TIED CARD OF 'trivetlaw03.ExpandLeads'. -/
def expandLeadsCard : Claim7 := { stood := { row := expandLeadsRow, standIns := [], harness := (true, "f6a5604ebb99b71dcc188d2b4cec2e32f5c40835c79362854719558cefee0bbb"), looks := false }, kinds := [], alts := [], laidByText := true, laidKinds := [.data], laidTests := true, laidLooks := .later }
def ExpandLeadsCardSaid : Prop := Claim7.holds Tryd.pinned (.plain (OpenSpec.ofChange expandLeadsSpec)) expandLeadsCard

/-- THE TIED CARD OF 'trivetlaw04.OrientSigns'. -/
def orientSignsCard : Claim7 := { stood := { row := orientSignsRow, standIns := [], harness := (true, "f6a5604ebb99b71dcc188d2b4cec2e32f5c40835c79362854719558cefee0bbb"), looks := false }, kinds := [], alts := [], laidByText := true, laidKinds := [.data], laidTests := true, laidLooks := .later }
def OrientSignsCardSaid : Prop := Claim7.holds Tryd.pinned (.plain (OpenSpec.ofChange orientSignsSpec)) orientSignsCard

/-- THE TIED CARD OF 'trivetlaw04.OrientKnows'. -/
def orientKnowsCard : Claim7 := { stood := { row := orientKnowsRow, standIns := [], harness := (true, "f6a5604ebb99b71dcc188d2b4cec2e32f5c40835c79362854719558cefee0bbb"), looks := false }, kinds := [], alts := [], laidByText := true, laidKinds := [.data], laidTests := true, laidLooks := .later }
def OrientKnowsCardSaid : Prop := Claim7.holds Tryd.pinned (.plain (OpenSpec.ofChange orientKnowsSpec)) orientKnowsCard

/-- THE TIED CARD OF 'trivetlaw04.OrientMeets'. -/
def orientMeetsCard : Claim7 := { stood := { row := orientMeetsRow, standIns := [], harness := (true, "f6a5604ebb99b71dcc188d2b4cec2e32f5c40835c79362854719558cefee0bbb"), looks := false }, kinds := [], alts := [], laidByText := true, laidKinds := [.data], laidTests := true, laidLooks := .later }
def OrientMeetsCardSaid : Prop := Claim7.holds Tryd.pinned (.plain (OpenSpec.ofChange orientMeetsSpec)) orientMeetsCard

/-- THE TIED CARD OF 'trivetlaw04.OrientTurns'. -/
def orientTurnsCard : Claim7 := { stood := { row := orientTurnsRow, standIns := [], harness := (true, "f6a5604ebb99b71dcc188d2b4cec2e32f5c40835c79362854719558cefee0bbb"), looks := false }, kinds := [], alts := [], laidByText := true, laidKinds := [.data], laidTests := true, laidLooks := .later }
def OrientTurnsCardSaid : Prop := Claim7.holds Tryd.pinned (.plain (OpenSpec.ofChange orientTurnsSpec)) orientTurnsCard

/-- THE TIED CARD OF 'trivetlaw04.OrientAround'. -/
def orientAroundCard : Claim7 := { stood := { row := orientAroundRow, standIns := [], harness := (true, "f6a5604ebb99b71dcc188d2b4cec2e32f5c40835c79362854719558cefee0bbb"), looks := false }, kinds := [], alts := [], laidByText := true, laidKinds := [.data], laidTests := true, laidLooks := .later }
def OrientAroundCardSaid : Prop := Claim7.holds Tryd.pinned (.plain (OpenSpec.ofChange orientAroundSpec)) orientAroundCard

/-- THE TIED CARD OF 'trivetlaw04.OrientMoved'. -/
def orientMovedCard : Claim7 := { stood := { row := orientMovedRow, standIns := [], harness := (true, "f6a5604ebb99b71dcc188d2b4cec2e32f5c40835c79362854719558cefee0bbb"), looks := false }, kinds := [], alts := [], laidByText := true, laidKinds := [.data], laidTests := true, laidLooks := .later }
def OrientMovedCardSaid : Prop := Claim7.holds Tryd.pinned (.plain (OpenSpec.ofChange orientMovedSpec)) orientMovedCard

/-- THE TIED CARD OF 'trivetlaw05.CircleTurns'. -/
def circleTurnsCard : Claim7 := { stood := { row := circleTurnsRow, standIns := [], harness := (true, "f6a5604ebb99b71dcc188d2b4cec2e32f5c40835c79362854719558cefee0bbb"), looks := false }, kinds := [], alts := [], laidByText := true, laidKinds := [.data], laidTests := true, laidLooks := .later }
def CircleTurnsCardSaid : Prop := Claim7.holds Tryd.pinned (.plain (OpenSpec.ofChange circleTurnsSpec)) circleTurnsCard

/-- THE TIED CARD OF 'trivetlaw05.CircleOne'. -/
def circleOneCard : Claim7 := { stood := { row := circleOneRow, standIns := [], harness := (true, "f6a5604ebb99b71dcc188d2b4cec2e32f5c40835c79362854719558cefee0bbb"), looks := false }, kinds := [], alts := [], laidByText := true, laidKinds := [.data], laidTests := true, laidLooks := .later }
def CircleOneCardSaid : Prop := Claim7.holds Tryd.pinned (.plain (OpenSpec.ofChange circleOneSpec)) circleOneCard

/-- THE TIED CARD OF 'trivetlaw05.CircleMoved'. -/
def circleMovedCard : Claim7 := { stood := { row := circleMovedRow, standIns := [], harness := (true, "f6a5604ebb99b71dcc188d2b4cec2e32f5c40835c79362854719558cefee0bbb"), looks := false }, kinds := [], alts := [], laidByText := true, laidKinds := [.data], laidTests := true, laidLooks := .later }
def CircleMovedCardSaid : Prop := Claim7.holds Tryd.pinned (.plain (OpenSpec.ofChange circleMovedSpec)) circleMovedCard

/-- THE TIED CARD OF 'trivetlaw05.CircleNames'. -/
def circleNamesCard : Claim7 := { stood := { row := circleNamesRow, standIns := [], harness := (true, "f6a5604ebb99b71dcc188d2b4cec2e32f5c40835c79362854719558cefee0bbb"), looks := false }, kinds := [], alts := [], laidByText := true, laidKinds := [.data], laidTests := true, laidLooks := .later }
def CircleNamesCardSaid : Prop := Claim7.holds Tryd.pinned (.plain (OpenSpec.ofChange circleNamesSpec)) circleNamesCard

/-- THE SECOND FORM's CARD OF 'trivetlaw01.WholeRing'. -/
def wholeRingUptoCard : Claim7 := { stood := { row := wholeRingUptoRow, standIns := [], harness := (true, "f6a5604ebb99b71dcc188d2b4cec2e32f5c40835c79362854719558cefee0bbb"), looks := false }, kinds := [], alts := [], laidByText := true, laidKinds := [.data], laidTests := true, laidLooks := .later }
def WholeRingUptoCardSaid : Prop := Claim7.holds Tryd.pinned (.plain (OpenSpec.upto wholeRingSpec)) wholeRingUptoCard

/-- THE SECOND FORM's CARD OF 'trivetlaw01.WholeOrder'. -/
def wholeOrderUptoCard : Claim7 := { stood := { row := wholeOrderUptoRow, standIns := [], harness := (true, "f6a5604ebb99b71dcc188d2b4cec2e32f5c40835c79362854719558cefee0bbb"), looks := false }, kinds := [], alts := [], laidByText := true, laidKinds := [.data], laidTests := true, laidLooks := .later }
def WholeOrderUptoCardSaid : Prop := Claim7.holds Tryd.pinned (.plain (OpenSpec.upto wholeOrderSpec)) wholeOrderUptoCard

/-- THE SECOND FORM's CARD OF 'trivetlaw01.WholeNames'. -/
def wholeNamesUptoCard : Claim7 := { stood := { row := wholeNamesUptoRow, standIns := [], harness := (true, "f6a5604ebb99b71dcc188d2b4cec2e32f5c40835c79362854719558cefee0bbb"), looks := false }, kinds := [], alts := [], laidByText := true, laidKinds := [.data], laidTests := true, laidLooks := .later }
def WholeNamesUptoCardSaid : Prop := Claim7.holds Tryd.pinned (.plain (OpenSpec.upto wholeNamesSpec)) wholeNamesUptoCard

/-- THE SECOND FORM's CARD OF 'trivetlaw01.WholeFloats'. -/
def wholeFloatsUptoCard : Claim7 := { stood := { row := wholeFloatsUptoRow, standIns := [], harness := (true, "f6a5604ebb99b71dcc188d2b4cec2e32f5c40835c79362854719558cefee0bbb"), looks := false }, kinds := [], alts := [], laidByText := true, laidKinds := [.data], laidTests := true, laidLooks := .later }
def WholeFloatsUptoCardSaid : Prop := Claim7.holds Tryd.pinned (.plain (OpenSpec.upto wholeFloatsSpec)) wholeFloatsUptoCard

/-- THE SECOND FORM's CARD OF 'trivetlaw01.WholeReckons'. -/
def wholeReckonsUptoCard : Claim7 := { stood := { row := wholeReckonsUptoRow, standIns := [], harness := (true, "f6a5604ebb99b71dcc188d2b4cec2e32f5c40835c79362854719558cefee0bbb"), looks := false }, kinds := [], alts := [], laidByText := true, laidKinds := [.data], laidTests := true, laidLooks := .later }
def WholeReckonsUptoCardSaid : Prop := Claim7.holds Tryd.pinned (.plain (OpenSpec.upto wholeReckonsSpec)) wholeReckonsUptoCard

/-- THE SECOND FORM's CARD OF 'trivetlaw03.ExpandAdds'. -/
def expandAddsUptoCard : Claim7 := { stood := { row := expandAddsUptoRow, standIns := [], harness := (true, "f6a5604ebb99b71dcc188d2b4cec2e32f5c40835c79362854719558cefee0bbb"), looks := false }, kinds := [], alts := [], laidByText := true, laidKinds := [.data], laidTests := true, laidLooks := .later }
def ExpandAddsUptoCardSaid : Prop := Claim7.holds Tryd.pinned (.plain (OpenSpec.upto expandAddsSpec)) expandAddsUptoCard

/-- THE SECOND FORM's CARD OF 'trivetlaw03.ExpandSigns'. -/
def expandSignsUptoCard : Claim7 := { stood := { row := expandSignsUptoRow, standIns := [], harness := (true, "f6a5604ebb99b71dcc188d2b4cec2e32f5c40835c79362854719558cefee0bbb"), looks := false }, kinds := [], alts := [], laidByText := true, laidKinds := [.data], laidTests := true, laidLooks := .later }
def ExpandSignsUptoCardSaid : Prop := Claim7.holds Tryd.pinned (.plain (OpenSpec.upto expandSignsSpec)) expandSignsUptoCard

/-- THE SECOND FORM's CARD OF 'trivetlaw03.ExpandMuls'. -/
def expandMulsUptoCard : Claim7 := { stood := { row := expandMulsUptoRow, standIns := [], harness := (true, "f6a5604ebb99b71dcc188d2b4cec2e32f5c40835c79362854719558cefee0bbb"), looks := false }, kinds := [], alts := [], laidByText := true, laidKinds := [.data], laidTests := true, laidLooks := .later }
def ExpandMulsUptoCardSaid : Prop := Claim7.holds Tryd.pinned (.plain (OpenSpec.upto expandMulsSpec)) expandMulsUptoCard

/-- THE SECOND FORM's CARD OF 'trivetlaw03.ExpandWhole'. -/
def expandWholeUptoCard : Claim7 := { stood := { row := expandWholeUptoRow, standIns := [], harness := (true, "f6a5604ebb99b71dcc188d2b4cec2e32f5c40835c79362854719558cefee0bbb"), looks := false }, kinds := [], alts := [], laidByText := true, laidKinds := [.data], laidTests := true, laidLooks := .later }
def ExpandWholeUptoCardSaid : Prop := Claim7.holds Tryd.pinned (.plain (OpenSpec.upto expandWholeSpec)) expandWholeUptoCard

/-- THE SECOND FORM's CARD OF 'trivetlaw03.ExpandLeads'. -/
def expandLeadsUptoCard : Claim7 := { stood := { row := expandLeadsUptoRow, standIns := [], harness := (true, "f6a5604ebb99b71dcc188d2b4cec2e32f5c40835c79362854719558cefee0bbb"), looks := false }, kinds := [], alts := [], laidByText := true, laidKinds := [.data], laidTests := true, laidLooks := .later }
def ExpandLeadsUptoCardSaid : Prop := Claim7.holds Tryd.pinned (.plain (OpenSpec.upto expandLeadsSpec)) expandLeadsUptoCard

/-- THE SECOND FORM's CARD OF 'trivetlaw04.OrientSigns'. -/
def orientSignsUptoCard : Claim7 := { stood := { row := orientSignsUptoRow, standIns := [], harness := (true, "f6a5604ebb99b71dcc188d2b4cec2e32f5c40835c79362854719558cefee0bbb"), looks := false }, kinds := [], alts := [], laidByText := true, laidKinds := [.data], laidTests := true, laidLooks := .later }
def OrientSignsUptoCardSaid : Prop := Claim7.holds Tryd.pinned (.plain (OpenSpec.upto orientSignsSpec)) orientSignsUptoCard

/-- THE SECOND FORM's CARD OF 'trivetlaw04.OrientKnows'. -/
def orientKnowsUptoCard : Claim7 := { stood := { row := orientKnowsUptoRow, standIns := [], harness := (true, "f6a5604ebb99b71dcc188d2b4cec2e32f5c40835c79362854719558cefee0bbb"), looks := false }, kinds := [], alts := [], laidByText := true, laidKinds := [.data], laidTests := true, laidLooks := .later }
def OrientKnowsUptoCardSaid : Prop := Claim7.holds Tryd.pinned (.plain (OpenSpec.upto orientKnowsSpec)) orientKnowsUptoCard

/-- THE SECOND FORM's CARD OF 'trivetlaw04.OrientMeets'. -/
def orientMeetsUptoCard : Claim7 := { stood := { row := orientMeetsUptoRow, standIns := [], harness := (true, "f6a5604ebb99b71dcc188d2b4cec2e32f5c40835c79362854719558cefee0bbb"), looks := false }, kinds := [], alts := [], laidByText := true, laidKinds := [.data], laidTests := true, laidLooks := .later }
def OrientMeetsUptoCardSaid : Prop := Claim7.holds Tryd.pinned (.plain (OpenSpec.upto orientMeetsSpec)) orientMeetsUptoCard

/-- THE SECOND FORM's CARD OF 'trivetlaw04.OrientTurns'. -/
def orientTurnsUptoCard : Claim7 := { stood := { row := orientTurnsUptoRow, standIns := [], harness := (true, "f6a5604ebb99b71dcc188d2b4cec2e32f5c40835c79362854719558cefee0bbb"), looks := false }, kinds := [], alts := [], laidByText := true, laidKinds := [.data], laidTests := true, laidLooks := .later }
def OrientTurnsUptoCardSaid : Prop := Claim7.holds Tryd.pinned (.plain (OpenSpec.upto orientTurnsSpec)) orientTurnsUptoCard

/-- THE SECOND FORM's CARD OF 'trivetlaw04.OrientAround'. -/
def orientAroundUptoCard : Claim7 := { stood := { row := orientAroundUptoRow, standIns := [], harness := (true, "f6a5604ebb99b71dcc188d2b4cec2e32f5c40835c79362854719558cefee0bbb"), looks := false }, kinds := [], alts := [], laidByText := true, laidKinds := [.data], laidTests := true, laidLooks := .later }
def OrientAroundUptoCardSaid : Prop := Claim7.holds Tryd.pinned (.plain (OpenSpec.upto orientAroundSpec)) orientAroundUptoCard

/-- THE SECOND FORM's CARD OF 'trivetlaw04.OrientMoved'. -/
def orientMovedUptoCard : Claim7 := { stood := { row := orientMovedUptoRow, standIns := [], harness := (true, "f6a5604ebb99b71dcc188d2b4cec2e32f5c40835c79362854719558cefee0bbb"), looks := false }, kinds := [], alts := [], laidByText := true, laidKinds := [.data], laidTests := true, laidLooks := .later }
def OrientMovedUptoCardSaid : Prop := Claim7.holds Tryd.pinned (.plain (OpenSpec.upto orientMovedSpec)) orientMovedUptoCard

/-- THE SECOND FORM's CARD OF 'trivetlaw05.CircleTurns'. -/
def circleTurnsUptoCard : Claim7 := { stood := { row := circleTurnsUptoRow, standIns := [], harness := (true, "f6a5604ebb99b71dcc188d2b4cec2e32f5c40835c79362854719558cefee0bbb"), looks := false }, kinds := [], alts := [], laidByText := true, laidKinds := [.data], laidTests := true, laidLooks := .later }
def CircleTurnsUptoCardSaid : Prop := Claim7.holds Tryd.pinned (.plain (OpenSpec.upto circleTurnsSpec)) circleTurnsUptoCard

/-- THE SECOND FORM's CARD OF 'trivetlaw05.CircleOne'. -/
def circleOneUptoCard : Claim7 := { stood := { row := circleOneUptoRow, standIns := [], harness := (true, "f6a5604ebb99b71dcc188d2b4cec2e32f5c40835c79362854719558cefee0bbb"), looks := false }, kinds := [], alts := [], laidByText := true, laidKinds := [.data], laidTests := true, laidLooks := .later }
def CircleOneUptoCardSaid : Prop := Claim7.holds Tryd.pinned (.plain (OpenSpec.upto circleOneSpec)) circleOneUptoCard

/-- THE SECOND FORM's CARD OF 'trivetlaw05.CircleMoved'. -/
def circleMovedUptoCard : Claim7 := { stood := { row := circleMovedUptoRow, standIns := [], harness := (true, "f6a5604ebb99b71dcc188d2b4cec2e32f5c40835c79362854719558cefee0bbb"), looks := false }, kinds := [], alts := [], laidByText := true, laidKinds := [.data], laidTests := true, laidLooks := .later }
def CircleMovedUptoCardSaid : Prop := Claim7.holds Tryd.pinned (.plain (OpenSpec.upto circleMovedSpec)) circleMovedUptoCard

/-- THE SECOND FORM's CARD OF 'trivetlaw05.CircleNames'. -/
def circleNamesUptoCard : Claim7 := { stood := { row := circleNamesUptoRow, standIns := [], harness := (true, "f6a5604ebb99b71dcc188d2b4cec2e32f5c40835c79362854719558cefee0bbb"), looks := false }, kinds := [], alts := [], laidByText := true, laidKinds := [.data], laidTests := true, laidLooks := .later }
def CircleNamesUptoCardSaid : Prop := Claim7.holds Tryd.pinned (.plain (OpenSpec.upto circleNamesSpec)) circleNamesUptoCard
end Rows
end Go.Proofs.YthnmjkjllhlcjaaDoor
