/-
  NARROWER THAN 'FOR EVERY INPUT', by the rows' own cells (each row's printed sentence says how): WholeRing: laid · WholeOrder: laid · WholeNames: laid · WholeFloats: laid · WholeReckons: laid · ExpandAdds: laid · ExpandSigns: laid · ExpandMuls: laid · ExpandWhole: laid · ExpandLeads: laid · OrientSigns: laid · OrientKnows: laid · OrientMeets: laid · OrientTurns: laid · OrientAround: laid · OrientMoved: laid · CircleTurns: laid · CircleOne: laid · CircleMoved: laid · CircleNames: laid.
  DERIVED. THE GIVEN ROWS OF THIS SEAT. 20 by the template 'for every input the law returns true; each argument reads behind the call as it read before'; 0 by the template 'total and deterministic' (their statements: YthnmjkjllhlcjaaDoorTotals.lean).
  GIVEN WITH THE SEED: the statements are not yours to turn. If you find one false, say at which input.
  Laid BY PROGRAM, IN A SANDBOX (cutbox-rows.mjs): the forced cells as the released guide's own fill.sh prints them over the translation 3bc0a2d2d9f86926… (all of the seat's roots in one cut). By AI agents, Wed Nov 11 2026. No macro, syntax, notation, axiom, sorry.
-/
import Derived.Test.YthnmjkjllhlcjaaDoorChecked
import GoSem.Claim
import GoSem.ClaimJoined
import GoSem.ClaimMapViews
import Derived.JoinedTies
import Derived.KernelRfl
namespace Go.Proofs.YthnmjkjllhlcjaaDoor
/- THE CELL 'sum', in the pinned program and in every row, IS THE sha256 OF THE DUMP (.gsa) THAT YthnmjkjllhlcjaaDoorProg.lean LOADS. Nothing in Lean hashes anything: it is a label: what it is worth is what the hold of that sum in a sandbox is worth. -/
noncomputable def Tryd.pinned : Pinned := { name := "ythnmjkjllhlcjaadoor", sum := "3bc0a2d2d9f86926586f776f53538beac8fc0bac69c954606b93db9174e0c357", checked := Tryd.checked }
namespace Rows
def none {H : Type} : Left H := { results := [], args := [] }

/- WHAT THE LISTED PACKAGE-LEVEL VARIABLES READ AS WHEN THE CALL BEGINS. Each datum BY PROGRAM (the guide's laid-datum.mjs) off the statement by which the dump's own 'gosem.cut.vars' lays the variable. In a bare row this is a premise. The card (YthnmjkjllhlcjaaDoorCards.lean) ties it to the program's text. -/
def laid_math_bits_deBruijn32tab {H : Type} : DataW H := .agg [.lit (.int .u8 0), .lit (.int .u8 1), .lit (.int .u8 28), .lit (.int .u8 2), .lit (.int .u8 29), .lit (.int .u8 14), .lit (.int .u8 24), .lit (.int .u8 3), .lit (.int .u8 30), .lit (.int .u8 22), .lit (.int .u8 20), .lit (.int .u8 15), .lit (.int .u8 25), .lit (.int .u8 17), .lit (.int .u8 4), .lit (.int .u8 8), .lit (.int .u8 31), .lit (.int .u8 27), .lit (.int .u8 13), .lit (.int .u8 23), .lit (.int .u8 21), .lit (.int .u8 19), .lit (.int .u8 16), .lit (.int .u8 7), .lit (.int .u8 26), .lit (.int .u8 12), .lit (.int .u8 18), .lit (.int .u8 6), .lit (.int .u8 11), .lit (.int .u8 5), .lit (.int .u8 10), .lit (.int .u8 9)]

/-- 'trivetlaw01.WholeRing': WHATEVER THE INPUT: true; the input reads as it did. -/
def wholeRingSpec : ChangeSpec := { name := "wholeRing", fn := fun _ => fun
  | [d1, d2] => { results := [.lit (.bool true)], args := [d1, d2] }
  | _ => none }
def wholeRingRow : OpenClaim := { program := "ythnmjkjllhlcjaadoor", sum := "3bc0a2d2d9f86926586f776f53538beac8fc0bac69c954606b93db9174e0c357", func := "trivet/trivetlaw01.WholeRing", spec := "wholeRing", inPlace := ["math.Float64bits", "math.Float64frombits"], named := ["math/bits.deBruijn32tab"], apart := false, laid := [("math/bits.deBruijn32tab", laid_math_bits_deBruijn32tab)] }
def WholeRingSaid : Prop := wholeRingRow.holds Tryd.pinned (OpenSpec.ofChange wholeRingSpec)

/-- ITS FALSE NEIGHBOUR: 'it returns false'. Refute it at one input. -/
def wholeRingWrong : ChangeSpec := { name := "wholeRing", fn := fun _ => fun
  | [d1, d2] => { results := [.lit (.bool false)], args := [d1, d2] }
  | _ => none }
def WholeRingWrongFalsely : Prop := wholeRingRow.holds Tryd.pinned (OpenSpec.ofChange wholeRingWrong)

/-- 'trivetlaw01.WholeOrder': WHATEVER THE INPUT: true; the input reads as it did. -/
def wholeOrderSpec : ChangeSpec := { name := "wholeOrder", fn := fun _ => fun
  | [d] => { results := [.lit (.bool true)], args := [d] }
  | _ => none }
def wholeOrderRow : OpenClaim := { program := "ythnmjkjllhlcjaadoor", sum := "3bc0a2d2d9f86926586f776f53538beac8fc0bac69c954606b93db9174e0c357", func := "trivet/trivetlaw01.WholeOrder", spec := "wholeOrder", inPlace := ["math.Float64bits", "math.Float64frombits"], named := ["math/bits.deBruijn32tab"], apart := false, laid := [("math/bits.deBruijn32tab", laid_math_bits_deBruijn32tab)] }
def WholeOrderSaid : Prop := wholeOrderRow.holds Tryd.pinned (OpenSpec.ofChange wholeOrderSpec)

/-- ITS FALSE NEIGHBOUR: 'it returns false'. Refute it at one input. -/
def wholeOrderWrong : ChangeSpec := { name := "wholeOrder", fn := fun _ => fun
  | [d] => { results := [.lit (.bool false)], args := [d] }
  | _ => none }
def WholeOrderWrongFalsely : Prop := wholeOrderRow.holds Tryd.pinned (OpenSpec.ofChange wholeOrderWrong)

/-- 'trivetlaw01.WholeNames': WHATEVER THE INPUT: true; the input reads as it did. -/
def wholeNamesSpec : ChangeSpec := { name := "wholeNames", fn := fun _ => fun
  | [] => { results := [.lit (.bool true)], args := [] }
  | _ => none }
def wholeNamesRow : OpenClaim := { program := "ythnmjkjllhlcjaadoor", sum := "3bc0a2d2d9f86926586f776f53538beac8fc0bac69c954606b93db9174e0c357", func := "trivet/trivetlaw01.WholeNames", spec := "wholeNames", inPlace := ["math.Float64bits", "math.Float64frombits"], named := ["math/bits.deBruijn32tab"], apart := false, laid := [("math/bits.deBruijn32tab", laid_math_bits_deBruijn32tab)] }
def WholeNamesSaid : Prop := wholeNamesRow.holds Tryd.pinned (OpenSpec.ofChange wholeNamesSpec)

/-- ITS FALSE NEIGHBOUR: 'it returns false'. Refute it at one input. -/
def wholeNamesWrong : ChangeSpec := { name := "wholeNames", fn := fun _ => fun
  | [] => { results := [.lit (.bool false)], args := [] }
  | _ => none }
def WholeNamesWrongFalsely : Prop := wholeNamesRow.holds Tryd.pinned (OpenSpec.ofChange wholeNamesWrong)

/-- 'trivetlaw01.WholeFloats': WHATEVER THE INPUT: true; the input reads as it did. -/
def wholeFloatsSpec : ChangeSpec := { name := "wholeFloats", fn := fun _ => fun
  | [d1, d2] => { results := [.lit (.bool true)], args := [d1, d2] }
  | _ => none }
def wholeFloatsRow : OpenClaim := { program := "ythnmjkjllhlcjaadoor", sum := "3bc0a2d2d9f86926586f776f53538beac8fc0bac69c954606b93db9174e0c357", func := "trivet/trivetlaw01.WholeFloats", spec := "wholeFloats", inPlace := ["math.Float64bits", "math.Float64frombits"], recurses := true, named := ["math/bits.deBruijn32tab"], apart := false, laid := [("math/bits.deBruijn32tab", laid_math_bits_deBruijn32tab)] }
def WholeFloatsSaid : Prop := wholeFloatsRow.holds Tryd.pinned (OpenSpec.ofChange wholeFloatsSpec)

/-- ITS FALSE NEIGHBOUR: 'it returns false'. Refute it at one input. -/
def wholeFloatsWrong : ChangeSpec := { name := "wholeFloats", fn := fun _ => fun
  | [d1, d2] => { results := [.lit (.bool false)], args := [d1, d2] }
  | _ => none }
def WholeFloatsWrongFalsely : Prop := wholeFloatsRow.holds Tryd.pinned (OpenSpec.ofChange wholeFloatsWrong)

/-- 'trivetlaw01.WholeReckons': WHATEVER THE INPUT: true; the input reads as it did. -/
def wholeReckonsSpec : ChangeSpec := { name := "wholeReckons", fn := fun _ => fun
  | [d] => { results := [.lit (.bool true)], args := [d] }
  | _ => none }
def wholeReckonsRow : OpenClaim := { program := "ythnmjkjllhlcjaadoor", sum := "3bc0a2d2d9f86926586f776f53538beac8fc0bac69c954606b93db9174e0c357", func := "trivet/trivetlaw01.WholeReckons", spec := "wholeReckons", inPlace := ["math.Float64bits", "math.Float64frombits"], recurses := true, named := ["math/bits.deBruijn32tab"], apart := false, laid := [("math/bits.deBruijn32tab", laid_math_bits_deBruijn32tab)] }
def WholeReckonsSaid : Prop := wholeReckonsRow.holds Tryd.pinned (OpenSpec.ofChange wholeReckonsSpec)

/-- ITS FALSE NEIGHBOUR: 'it returns false'. Refute it at one input. -/
def wholeReckonsWrong : ChangeSpec := { name := "wholeReckons", fn := fun _ => fun
  | [d] => { results := [.lit (.bool false)], args := [d] }
  | _ => none }
def WholeReckonsWrongFalsely : Prop := wholeReckonsRow.holds Tryd.pinned (OpenSpec.ofChange wholeReckonsWrong)

/-- 'trivetlaw03.ExpandAdds': WHATEVER THE INPUT: true; the input reads as it did. -/
def expandAddsSpec : ChangeSpec := { name := "expandAdds", fn := fun _ => fun
  | [d1, d2] => { results := [.lit (.bool true)], args := [d1, d2] }
  | _ => none }
def expandAddsRow : OpenClaim := { program := "ythnmjkjllhlcjaadoor", sum := "3bc0a2d2d9f86926586f776f53538beac8fc0bac69c954606b93db9174e0c357", func := "trivet/trivetlaw03.ExpandAdds", spec := "expandAdds", inPlace := ["math.Float64bits", "math.Float64frombits"], unfollowed := true, recurses := true, named := ["math/bits.deBruijn32tab"], apart := false, laid := [("math/bits.deBruijn32tab", laid_math_bits_deBruijn32tab)] }
def ExpandAddsSaid : Prop := expandAddsRow.holds Tryd.pinned (OpenSpec.ofChange expandAddsSpec)

/-- ITS FALSE NEIGHBOUR: 'it returns false'. Refute it at one input. -/
def expandAddsWrong : ChangeSpec := { name := "expandAdds", fn := fun _ => fun
  | [d1, d2] => { results := [.lit (.bool false)], args := [d1, d2] }
  | _ => none }
def ExpandAddsWrongFalsely : Prop := expandAddsRow.holds Tryd.pinned (OpenSpec.ofChange expandAddsWrong)

/-- 'trivetlaw03.ExpandSigns': WHATEVER THE INPUT: true; the input reads as it did. -/
def expandSignsSpec : ChangeSpec := { name := "expandSigns", fn := fun _ => fun
  | [d1, d2, d3] => { results := [.lit (.bool true)], args := [d1, d2, d3] }
  | _ => none }
def expandSignsRow : OpenClaim := { program := "ythnmjkjllhlcjaadoor", sum := "3bc0a2d2d9f86926586f776f53538beac8fc0bac69c954606b93db9174e0c357", func := "trivet/trivetlaw03.ExpandSigns", spec := "expandSigns", inPlace := ["math.Float64bits", "math.Float64frombits"], unfollowed := true, recurses := true, named := ["math/bits.deBruijn32tab"], apart := false, laid := [("math/bits.deBruijn32tab", laid_math_bits_deBruijn32tab)] }
def ExpandSignsSaid : Prop := expandSignsRow.holds Tryd.pinned (OpenSpec.ofChange expandSignsSpec)

/-- ITS FALSE NEIGHBOUR: 'it returns false'. Refute it at one input. -/
def expandSignsWrong : ChangeSpec := { name := "expandSigns", fn := fun _ => fun
  | [d1, d2, d3] => { results := [.lit (.bool false)], args := [d1, d2, d3] }
  | _ => none }
def ExpandSignsWrongFalsely : Prop := expandSignsRow.holds Tryd.pinned (OpenSpec.ofChange expandSignsWrong)

/-- 'trivetlaw03.ExpandMuls': WHATEVER THE INPUT: true; the input reads as it did. -/
def expandMulsSpec : ChangeSpec := { name := "expandMuls", fn := fun _ => fun
  | [d1, d2, d3] => { results := [.lit (.bool true)], args := [d1, d2, d3] }
  | _ => none }
def expandMulsRow : OpenClaim := { program := "ythnmjkjllhlcjaadoor", sum := "3bc0a2d2d9f86926586f776f53538beac8fc0bac69c954606b93db9174e0c357", func := "trivet/trivetlaw03.ExpandMuls", spec := "expandMuls", inPlace := ["math.Float64bits", "math.Float64frombits"], unfollowed := true, recurses := true, named := ["math/bits.deBruijn32tab"], apart := false, laid := [("math/bits.deBruijn32tab", laid_math_bits_deBruijn32tab)] }
def ExpandMulsSaid : Prop := expandMulsRow.holds Tryd.pinned (OpenSpec.ofChange expandMulsSpec)

/-- ITS FALSE NEIGHBOUR: 'it returns false'. Refute it at one input. -/
def expandMulsWrong : ChangeSpec := { name := "expandMuls", fn := fun _ => fun
  | [d1, d2, d3] => { results := [.lit (.bool false)], args := [d1, d2, d3] }
  | _ => none }
def ExpandMulsWrongFalsely : Prop := expandMulsRow.holds Tryd.pinned (OpenSpec.ofChange expandMulsWrong)

/-- 'trivetlaw03.ExpandWhole': WHATEVER THE INPUT: true; the input reads as it did. -/
def expandWholeSpec : ChangeSpec := { name := "expandWhole", fn := fun _ => fun
  | [d] => { results := [.lit (.bool true)], args := [d] }
  | _ => none }
def expandWholeRow : OpenClaim := { program := "ythnmjkjllhlcjaadoor", sum := "3bc0a2d2d9f86926586f776f53538beac8fc0bac69c954606b93db9174e0c357", func := "trivet/trivetlaw03.ExpandWhole", spec := "expandWhole", inPlace := ["math.Float64bits", "math.Float64frombits"], unfollowed := true, recurses := true, named := ["math/bits.deBruijn32tab"], apart := false, laid := [("math/bits.deBruijn32tab", laid_math_bits_deBruijn32tab)] }
def ExpandWholeSaid : Prop := expandWholeRow.holds Tryd.pinned (OpenSpec.ofChange expandWholeSpec)

/-- ITS FALSE NEIGHBOUR: 'it returns false'. Refute it at one input. -/
def expandWholeWrong : ChangeSpec := { name := "expandWhole", fn := fun _ => fun
  | [d] => { results := [.lit (.bool false)], args := [d] }
  | _ => none }
def ExpandWholeWrongFalsely : Prop := expandWholeRow.holds Tryd.pinned (OpenSpec.ofChange expandWholeWrong)

/-- 'trivetlaw03.ExpandLeads': WHATEVER THE INPUT: true; the input reads as it did. -/
def expandLeadsSpec : ChangeSpec := { name := "expandLeads", fn := fun _ => fun
  | [d] => { results := [.lit (.bool true)], args := [d] }
  | _ => none }
def expandLeadsRow : OpenClaim := { program := "ythnmjkjllhlcjaadoor", sum := "3bc0a2d2d9f86926586f776f53538beac8fc0bac69c954606b93db9174e0c357", func := "trivet/trivetlaw03.ExpandLeads", spec := "expandLeads", inPlace := ["math.Float64bits", "math.Float64frombits"], unfollowed := true, recurses := true, named := ["math/bits.deBruijn32tab"], apart := false, laid := [("math/bits.deBruijn32tab", laid_math_bits_deBruijn32tab)] }
def ExpandLeadsSaid : Prop := expandLeadsRow.holds Tryd.pinned (OpenSpec.ofChange expandLeadsSpec)

/-- ITS FALSE NEIGHBOUR: 'it returns false'. Refute it at one input. -/
def expandLeadsWrong : ChangeSpec := { name := "expandLeads", fn := fun _ => fun
  | [d] => { results := [.lit (.bool false)], args := [d] }
  | _ => none }
def ExpandLeadsWrongFalsely : Prop := expandLeadsRow.holds Tryd.pinned (OpenSpec.ofChange expandLeadsWrong)

/-- 'trivetlaw04.OrientSigns': WHATEVER THE INPUT: true; the input reads as it did. -/
def orientSignsSpec : ChangeSpec := { name := "orientSigns", fn := fun _ => fun
  | [d1, d2, d3] => { results := [.lit (.bool true)], args := [d1, d2, d3] }
  | _ => none }
def orientSignsRow : OpenClaim := { program := "ythnmjkjllhlcjaadoor", sum := "3bc0a2d2d9f86926586f776f53538beac8fc0bac69c954606b93db9174e0c357", func := "trivet/trivetlaw04.OrientSigns", spec := "orientSigns", inPlace := ["math.Float64bits", "math.Float64frombits", "math.archTrunc"], unfollowed := true, recurses := true, named := ["math/bits.deBruijn32tab"], apart := false, laid := [("math/bits.deBruijn32tab", laid_math_bits_deBruijn32tab)] }
def OrientSignsSaid : Prop := orientSignsRow.holds Tryd.pinned (OpenSpec.ofChange orientSignsSpec)

/-- ITS FALSE NEIGHBOUR: 'it returns false'. Refute it at one input. -/
def orientSignsWrong : ChangeSpec := { name := "orientSigns", fn := fun _ => fun
  | [d1, d2, d3] => { results := [.lit (.bool false)], args := [d1, d2, d3] }
  | _ => none }
def OrientSignsWrongFalsely : Prop := orientSignsRow.holds Tryd.pinned (OpenSpec.ofChange orientSignsWrong)

/-- 'trivetlaw04.OrientKnows': WHATEVER THE INPUT: true; the input reads as it did. -/
def orientKnowsSpec : ChangeSpec := { name := "orientKnows", fn := fun _ => fun
  | [d] => { results := [.lit (.bool true)], args := [d] }
  | _ => none }
def orientKnowsRow : OpenClaim := { program := "ythnmjkjllhlcjaadoor", sum := "3bc0a2d2d9f86926586f776f53538beac8fc0bac69c954606b93db9174e0c357", func := "trivet/trivetlaw04.OrientKnows", spec := "orientKnows", inPlace := ["math.Float64bits", "math.Float64frombits", "math.archTrunc"], unfollowed := true, recurses := true, named := ["math/bits.deBruijn32tab"], apart := false, laid := [("math/bits.deBruijn32tab", laid_math_bits_deBruijn32tab)] }
def OrientKnowsSaid : Prop := orientKnowsRow.holds Tryd.pinned (OpenSpec.ofChange orientKnowsSpec)

/-- ITS FALSE NEIGHBOUR: 'it returns false'. Refute it at one input. -/
def orientKnowsWrong : ChangeSpec := { name := "orientKnows", fn := fun _ => fun
  | [d] => { results := [.lit (.bool false)], args := [d] }
  | _ => none }
def OrientKnowsWrongFalsely : Prop := orientKnowsRow.holds Tryd.pinned (OpenSpec.ofChange orientKnowsWrong)

/-- 'trivetlaw04.OrientMeets': WHATEVER THE INPUT: true; the input reads as it did. -/
def orientMeetsSpec : ChangeSpec := { name := "orientMeets", fn := fun _ => fun
  | [d1, d2, d3, d4] => { results := [.lit (.bool true)], args := [d1, d2, d3, d4] }
  | _ => none }
def orientMeetsRow : OpenClaim := { program := "ythnmjkjllhlcjaadoor", sum := "3bc0a2d2d9f86926586f776f53538beac8fc0bac69c954606b93db9174e0c357", func := "trivet/trivetlaw04.OrientMeets", spec := "orientMeets", inPlace := ["math.Float64bits", "math.Float64frombits", "math.archTrunc"], unfollowed := true, recurses := true, named := ["math/bits.deBruijn32tab"], apart := false, laid := [("math/bits.deBruijn32tab", laid_math_bits_deBruijn32tab)] }
def OrientMeetsSaid : Prop := orientMeetsRow.holds Tryd.pinned (OpenSpec.ofChange orientMeetsSpec)

/-- ITS FALSE NEIGHBOUR: 'it returns false'. Refute it at one input. -/
def orientMeetsWrong : ChangeSpec := { name := "orientMeets", fn := fun _ => fun
  | [d1, d2, d3, d4] => { results := [.lit (.bool false)], args := [d1, d2, d3, d4] }
  | _ => none }
def OrientMeetsWrongFalsely : Prop := orientMeetsRow.holds Tryd.pinned (OpenSpec.ofChange orientMeetsWrong)

/-- 'trivetlaw04.OrientTurns': WHATEVER THE INPUT: true; the input reads as it did. -/
def orientTurnsSpec : ChangeSpec := { name := "orientTurns", fn := fun _ => fun
  | [d1, d2, d3] => { results := [.lit (.bool true)], args := [d1, d2, d3] }
  | _ => none }
def orientTurnsRow : OpenClaim := { program := "ythnmjkjllhlcjaadoor", sum := "3bc0a2d2d9f86926586f776f53538beac8fc0bac69c954606b93db9174e0c357", func := "trivet/trivetlaw04.OrientTurns", spec := "orientTurns", inPlace := ["math.Float64bits", "math.Float64frombits", "math.archTrunc"], unfollowed := true, recurses := true, named := ["math/bits.deBruijn32tab"], apart := false, laid := [("math/bits.deBruijn32tab", laid_math_bits_deBruijn32tab)] }
def OrientTurnsSaid : Prop := orientTurnsRow.holds Tryd.pinned (OpenSpec.ofChange orientTurnsSpec)

/-- ITS FALSE NEIGHBOUR: 'it returns false'. Refute it at one input. -/
def orientTurnsWrong : ChangeSpec := { name := "orientTurns", fn := fun _ => fun
  | [d1, d2, d3] => { results := [.lit (.bool false)], args := [d1, d2, d3] }
  | _ => none }
def OrientTurnsWrongFalsely : Prop := orientTurnsRow.holds Tryd.pinned (OpenSpec.ofChange orientTurnsWrong)

/-- 'trivetlaw04.OrientAround': WHATEVER THE INPUT: true; the input reads as it did. -/
def orientAroundSpec : ChangeSpec := { name := "orientAround", fn := fun _ => fun
  | [d1, d2, d3, d4, d5] => { results := [.lit (.bool true)], args := [d1, d2, d3, d4, d5] }
  | _ => none }
def orientAroundRow : OpenClaim := { program := "ythnmjkjllhlcjaadoor", sum := "3bc0a2d2d9f86926586f776f53538beac8fc0bac69c954606b93db9174e0c357", func := "trivet/trivetlaw04.OrientAround", spec := "orientAround", inPlace := ["math.Float64bits", "math.Float64frombits", "math.archTrunc"], unfollowed := true, recurses := true, named := ["math/bits.deBruijn32tab"], apart := false, laid := [("math/bits.deBruijn32tab", laid_math_bits_deBruijn32tab)] }
def OrientAroundSaid : Prop := orientAroundRow.holds Tryd.pinned (OpenSpec.ofChange orientAroundSpec)

/-- ITS FALSE NEIGHBOUR: 'it returns false'. Refute it at one input. -/
def orientAroundWrong : ChangeSpec := { name := "orientAround", fn := fun _ => fun
  | [d1, d2, d3, d4, d5] => { results := [.lit (.bool false)], args := [d1, d2, d3, d4, d5] }
  | _ => none }
def OrientAroundWrongFalsely : Prop := orientAroundRow.holds Tryd.pinned (OpenSpec.ofChange orientAroundWrong)

/-- 'trivetlaw04.OrientMoved': WHATEVER THE INPUT: true; the input reads as it did. -/
def orientMovedSpec : ChangeSpec := { name := "orientMoved", fn := fun _ => fun
  | [d1, d2, d3, d4] => { results := [.lit (.bool true)], args := [d1, d2, d3, d4] }
  | _ => none }
def orientMovedRow : OpenClaim := { program := "ythnmjkjllhlcjaadoor", sum := "3bc0a2d2d9f86926586f776f53538beac8fc0bac69c954606b93db9174e0c357", func := "trivet/trivetlaw04.OrientMoved", spec := "orientMoved", inPlace := ["math.Float64bits", "math.Float64frombits", "math.archTrunc"], unfollowed := true, recurses := true, named := ["math/bits.deBruijn32tab"], apart := false, laid := [("math/bits.deBruijn32tab", laid_math_bits_deBruijn32tab)] }
def OrientMovedSaid : Prop := orientMovedRow.holds Tryd.pinned (OpenSpec.ofChange orientMovedSpec)

/-- ITS FALSE NEIGHBOUR: 'it returns false'. Refute it at one input. -/
def orientMovedWrong : ChangeSpec := { name := "orientMoved", fn := fun _ => fun
  | [d1, d2, d3, d4] => { results := [.lit (.bool false)], args := [d1, d2, d3, d4] }
  | _ => none }
def OrientMovedWrongFalsely : Prop := orientMovedRow.holds Tryd.pinned (OpenSpec.ofChange orientMovedWrong)

/-- 'trivetlaw05.CircleTurns': WHATEVER THE INPUT: true; the input reads as it did. -/
def circleTurnsSpec : ChangeSpec := { name := "circleTurns", fn := fun _ => fun
  | [d1, d2, d3, d4] => { results := [.lit (.bool true)], args := [d1, d2, d3, d4] }
  | _ => none }
def circleTurnsRow : OpenClaim := { program := "ythnmjkjllhlcjaadoor", sum := "3bc0a2d2d9f86926586f776f53538beac8fc0bac69c954606b93db9174e0c357", func := "trivet/trivetlaw05.CircleTurns", spec := "circleTurns", inPlace := ["math.Float64bits", "math.Float64frombits", "math.archTrunc"], unfollowed := true, recurses := true, named := ["math/bits.deBruijn32tab"], apart := false, laid := [("math/bits.deBruijn32tab", laid_math_bits_deBruijn32tab)] }
def CircleTurnsSaid : Prop := circleTurnsRow.holds Tryd.pinned (OpenSpec.ofChange circleTurnsSpec)

/-- ITS FALSE NEIGHBOUR: 'it returns false'. Refute it at one input. -/
def circleTurnsWrong : ChangeSpec := { name := "circleTurns", fn := fun _ => fun
  | [d1, d2, d3, d4] => { results := [.lit (.bool false)], args := [d1, d2, d3, d4] }
  | _ => none }
def CircleTurnsWrongFalsely : Prop := circleTurnsRow.holds Tryd.pinned (OpenSpec.ofChange circleTurnsWrong)

/-- 'trivetlaw05.CircleOne': WHATEVER THE INPUT: true; the input reads as it did. -/
def circleOneSpec : ChangeSpec := { name := "circleOne", fn := fun _ => fun
  | [d1, d2, d3, d4] => { results := [.lit (.bool true)], args := [d1, d2, d3, d4] }
  | _ => none }
def circleOneRow : OpenClaim := { program := "ythnmjkjllhlcjaadoor", sum := "3bc0a2d2d9f86926586f776f53538beac8fc0bac69c954606b93db9174e0c357", func := "trivet/trivetlaw05.CircleOne", spec := "circleOne", inPlace := ["math.Float64bits", "math.Float64frombits", "math.archTrunc"], unfollowed := true, recurses := true, named := ["math/bits.deBruijn32tab"], apart := false, laid := [("math/bits.deBruijn32tab", laid_math_bits_deBruijn32tab)] }
def CircleOneSaid : Prop := circleOneRow.holds Tryd.pinned (OpenSpec.ofChange circleOneSpec)

/-- ITS FALSE NEIGHBOUR: 'it returns false'. Refute it at one input. -/
def circleOneWrong : ChangeSpec := { name := "circleOne", fn := fun _ => fun
  | [d1, d2, d3, d4] => { results := [.lit (.bool false)], args := [d1, d2, d3, d4] }
  | _ => none }
def CircleOneWrongFalsely : Prop := circleOneRow.holds Tryd.pinned (OpenSpec.ofChange circleOneWrong)

/-- 'trivetlaw05.CircleMoved': WHATEVER THE INPUT: true; the input reads as it did. -/
def circleMovedSpec : ChangeSpec := { name := "circleMoved", fn := fun _ => fun
  | [d1, d2, d3, d4, d5] => { results := [.lit (.bool true)], args := [d1, d2, d3, d4, d5] }
  | _ => none }
def circleMovedRow : OpenClaim := { program := "ythnmjkjllhlcjaadoor", sum := "3bc0a2d2d9f86926586f776f53538beac8fc0bac69c954606b93db9174e0c357", func := "trivet/trivetlaw05.CircleMoved", spec := "circleMoved", inPlace := ["math.Float64bits", "math.Float64frombits", "math.archTrunc"], unfollowed := true, recurses := true, named := ["math/bits.deBruijn32tab"], apart := false, laid := [("math/bits.deBruijn32tab", laid_math_bits_deBruijn32tab)] }
def CircleMovedSaid : Prop := circleMovedRow.holds Tryd.pinned (OpenSpec.ofChange circleMovedSpec)

/-- ITS FALSE NEIGHBOUR: 'it returns false'. Refute it at one input. -/
def circleMovedWrong : ChangeSpec := { name := "circleMoved", fn := fun _ => fun
  | [d1, d2, d3, d4, d5] => { results := [.lit (.bool false)], args := [d1, d2, d3, d4, d5] }
  | _ => none }
def CircleMovedWrongFalsely : Prop := circleMovedRow.holds Tryd.pinned (OpenSpec.ofChange circleMovedWrong)

/-- 'trivetlaw05.CircleNames': WHATEVER THE INPUT: true; the input reads as it did. -/
def circleNamesSpec : ChangeSpec := { name := "circleNames", fn := fun _ => fun
  | [] => { results := [.lit (.bool true)], args := [] }
  | _ => none }
def circleNamesRow : OpenClaim := { program := "ythnmjkjllhlcjaadoor", sum := "3bc0a2d2d9f86926586f776f53538beac8fc0bac69c954606b93db9174e0c357", func := "trivet/trivetlaw05.CircleNames", spec := "circleNames", inPlace := ["math.Float64bits", "math.Float64frombits", "math.archTrunc"], unfollowed := true, recurses := true, named := ["math/bits.deBruijn32tab"], apart := false, laid := [("math/bits.deBruijn32tab", laid_math_bits_deBruijn32tab)] }
def CircleNamesSaid : Prop := circleNamesRow.holds Tryd.pinned (OpenSpec.ofChange circleNamesSpec)

/-- ITS FALSE NEIGHBOUR: 'it returns false'. Refute it at one input. -/
def circleNamesWrong : ChangeSpec := { name := "circleNames", fn := fun _ => fun
  | [] => { results := [.lit (.bool false)], args := [] }
  | _ => none }
def CircleNamesWrongFalsely : Prop := circleNamesRow.holds Tryd.pinned (OpenSpec.ofChange circleNamesWrong)

/- THE SECOND FORM. 'bulk': how many values and letters a reading holds, each counted each time it is reached (what is shared counts as often as it is met; a slice's spare places count too). A statement '..UptoSaid' is the law's where the arguments, and the package variables that the reading takes, are together of bulk at most 1048576: NARROWER than '..Said'. Prove '..Said' where nothing that the law and all that it calls make is longer than what came in: it says more and counts as full. Else prove '..UptoSaid'. A law counts once. -/
mutual
def uptoBulk {H : Type} : DataW H → Nat
  | .lit (.string bytes) => bytes.length + 1
  | .lit _ => 1
  | .nil => 1
  | .ptr d => uptoBulk d + 1
  | .slice elems spare => uptoBulkAll elems + uptoBulkAll spare + 1
  | .agg parts => uptoBulkAll parts + 1
  | .iface _ d => uptoBulk d + 1
  | .map entries => uptoBulkEntries entries + 1
  | .held _ => 1
def uptoBulkAll {H : Type} : List (DataW H) → Nat
  | [] => 0
  | d :: r => uptoBulk d + uptoBulkAll r
def uptoBulkEntries {H : Type} : List (Lit × DataW H) → Nat
  | [] => 0
  | x :: r => uptoBulkEntry x + uptoBulkEntries r
def uptoBulkEntry {H : Type} : Lit × DataW H → Nat
  | (.string bytes, d) => bytes.length + uptoBulk d + 1
  | (_, d) => uptoBulk d + 1
 end
def uptoSmall : (H : Type) → List (DataW H) → Bool := fun _ ds => decide (uptoBulkAll ds ≤ 1048576)
def OpenSpec.upto (s : _root_.Go.ChangeSpec) : _root_.Go.OpenSpec := { _root_.Go.OpenSpec.ofChange s with cond := some uptoSmall }

/-- 'trivetlaw01.WholeRing', WHERE WHAT IT READS IS OF BULK AT MOST 1048576: true; the input reads as it did. -/
def wholeRingUptoRow : OpenClaim := { program := "ythnmjkjllhlcjaadoor", sum := "3bc0a2d2d9f86926586f776f53538beac8fc0bac69c954606b93db9174e0c357", func := "trivet/trivetlaw01.WholeRing", spec := "wholeRing", inPlace := ["math.Float64bits", "math.Float64frombits"], named := ["math/bits.deBruijn32tab"], apart := false, laid := [("math/bits.deBruijn32tab", laid_math_bits_deBruijn32tab)], narrowed := true }
def WholeRingUptoSaid : Prop := wholeRingUptoRow.holds Tryd.pinned (OpenSpec.upto wholeRingSpec)

/-- 'trivetlaw01.WholeOrder', WHERE WHAT IT READS IS OF BULK AT MOST 1048576: true; the input reads as it did. -/
def wholeOrderUptoRow : OpenClaim := { program := "ythnmjkjllhlcjaadoor", sum := "3bc0a2d2d9f86926586f776f53538beac8fc0bac69c954606b93db9174e0c357", func := "trivet/trivetlaw01.WholeOrder", spec := "wholeOrder", inPlace := ["math.Float64bits", "math.Float64frombits"], named := ["math/bits.deBruijn32tab"], apart := false, laid := [("math/bits.deBruijn32tab", laid_math_bits_deBruijn32tab)], narrowed := true }
def WholeOrderUptoSaid : Prop := wholeOrderUptoRow.holds Tryd.pinned (OpenSpec.upto wholeOrderSpec)

/-- 'trivetlaw01.WholeNames', WHERE WHAT IT READS IS OF BULK AT MOST 1048576: true; the input reads as it did. -/
def wholeNamesUptoRow : OpenClaim := { program := "ythnmjkjllhlcjaadoor", sum := "3bc0a2d2d9f86926586f776f53538beac8fc0bac69c954606b93db9174e0c357", func := "trivet/trivetlaw01.WholeNames", spec := "wholeNames", inPlace := ["math.Float64bits", "math.Float64frombits"], named := ["math/bits.deBruijn32tab"], apart := false, laid := [("math/bits.deBruijn32tab", laid_math_bits_deBruijn32tab)], narrowed := true }
def WholeNamesUptoSaid : Prop := wholeNamesUptoRow.holds Tryd.pinned (OpenSpec.upto wholeNamesSpec)

/-- 'trivetlaw01.WholeFloats', WHERE WHAT IT READS IS OF BULK AT MOST 1048576: true; the input reads as it did. -/
def wholeFloatsUptoRow : OpenClaim := { program := "ythnmjkjllhlcjaadoor", sum := "3bc0a2d2d9f86926586f776f53538beac8fc0bac69c954606b93db9174e0c357", func := "trivet/trivetlaw01.WholeFloats", spec := "wholeFloats", inPlace := ["math.Float64bits", "math.Float64frombits"], recurses := true, named := ["math/bits.deBruijn32tab"], apart := false, laid := [("math/bits.deBruijn32tab", laid_math_bits_deBruijn32tab)], narrowed := true }
def WholeFloatsUptoSaid : Prop := wholeFloatsUptoRow.holds Tryd.pinned (OpenSpec.upto wholeFloatsSpec)

/-- 'trivetlaw01.WholeReckons', WHERE WHAT IT READS IS OF BULK AT MOST 1048576: true; the input reads as it did. -/
def wholeReckonsUptoRow : OpenClaim := { program := "ythnmjkjllhlcjaadoor", sum := "3bc0a2d2d9f86926586f776f53538beac8fc0bac69c954606b93db9174e0c357", func := "trivet/trivetlaw01.WholeReckons", spec := "wholeReckons", inPlace := ["math.Float64bits", "math.Float64frombits"], recurses := true, named := ["math/bits.deBruijn32tab"], apart := false, laid := [("math/bits.deBruijn32tab", laid_math_bits_deBruijn32tab)], narrowed := true }
def WholeReckonsUptoSaid : Prop := wholeReckonsUptoRow.holds Tryd.pinned (OpenSpec.upto wholeReckonsSpec)

/-- 'trivetlaw03.ExpandAdds', WHERE WHAT IT READS IS OF BULK AT MOST 1048576: true; the input reads as it did. -/
def expandAddsUptoRow : OpenClaim := { program := "ythnmjkjllhlcjaadoor", sum := "3bc0a2d2d9f86926586f776f53538beac8fc0bac69c954606b93db9174e0c357", func := "trivet/trivetlaw03.ExpandAdds", spec := "expandAdds", inPlace := ["math.Float64bits", "math.Float64frombits"], unfollowed := true, recurses := true, named := ["math/bits.deBruijn32tab"], apart := false, laid := [("math/bits.deBruijn32tab", laid_math_bits_deBruijn32tab)], narrowed := true }
def ExpandAddsUptoSaid : Prop := expandAddsUptoRow.holds Tryd.pinned (OpenSpec.upto expandAddsSpec)

/-- 'trivetlaw03.ExpandSigns', WHERE WHAT IT READS IS OF BULK AT MOST 1048576: true; the input reads as it did. -/
def expandSignsUptoRow : OpenClaim := { program := "ythnmjkjllhlcjaadoor", sum := "3bc0a2d2d9f86926586f776f53538beac8fc0bac69c954606b93db9174e0c357", func := "trivet/trivetlaw03.ExpandSigns", spec := "expandSigns", inPlace := ["math.Float64bits", "math.Float64frombits"], unfollowed := true, recurses := true, named := ["math/bits.deBruijn32tab"], apart := false, laid := [("math/bits.deBruijn32tab", laid_math_bits_deBruijn32tab)], narrowed := true }
def ExpandSignsUptoSaid : Prop := expandSignsUptoRow.holds Tryd.pinned (OpenSpec.upto expandSignsSpec)

/-- 'trivetlaw03.ExpandMuls', WHERE WHAT IT READS IS OF BULK AT MOST 1048576: true; the input reads as it did. -/
def expandMulsUptoRow : OpenClaim := { program := "ythnmjkjllhlcjaadoor", sum := "3bc0a2d2d9f86926586f776f53538beac8fc0bac69c954606b93db9174e0c357", func := "trivet/trivetlaw03.ExpandMuls", spec := "expandMuls", inPlace := ["math.Float64bits", "math.Float64frombits"], unfollowed := true, recurses := true, named := ["math/bits.deBruijn32tab"], apart := false, laid := [("math/bits.deBruijn32tab", laid_math_bits_deBruijn32tab)], narrowed := true }
def ExpandMulsUptoSaid : Prop := expandMulsUptoRow.holds Tryd.pinned (OpenSpec.upto expandMulsSpec)

/-- 'trivetlaw03.ExpandWhole', WHERE WHAT IT READS IS OF BULK AT MOST 1048576: true; the input reads as it did. -/
def expandWholeUptoRow : OpenClaim := { program := "ythnmjkjllhlcjaadoor", sum := "3bc0a2d2d9f86926586f776f53538beac8fc0bac69c954606b93db9174e0c357", func := "trivet/trivetlaw03.ExpandWhole", spec := "expandWhole", inPlace := ["math.Float64bits", "math.Float64frombits"], unfollowed := true, recurses := true, named := ["math/bits.deBruijn32tab"], apart := false, laid := [("math/bits.deBruijn32tab", laid_math_bits_deBruijn32tab)], narrowed := true }
def ExpandWholeUptoSaid : Prop := expandWholeUptoRow.holds Tryd.pinned (OpenSpec.upto expandWholeSpec)

/-- 'trivetlaw03.ExpandLeads', WHERE WHAT IT READS IS OF BULK AT MOST 1048576: true; the input reads as it did. -/
def expandLeadsUptoRow : OpenClaim := { program := "ythnmjkjllhlcjaadoor", sum := "3bc0a2d2d9f86926586f776f53538beac8fc0bac69c954606b93db9174e0c357", func := "trivet/trivetlaw03.ExpandLeads", spec := "expandLeads", inPlace := ["math.Float64bits", "math.Float64frombits"], unfollowed := true, recurses := true, named := ["math/bits.deBruijn32tab"], apart := false, laid := [("math/bits.deBruijn32tab", laid_math_bits_deBruijn32tab)], narrowed := true }
def ExpandLeadsUptoSaid : Prop := expandLeadsUptoRow.holds Tryd.pinned (OpenSpec.upto expandLeadsSpec)

/-- 'trivetlaw04.OrientSigns', WHERE WHAT IT READS IS OF BULK AT MOST 1048576: true; the input reads as it did. -/
def orientSignsUptoRow : OpenClaim := { program := "ythnmjkjllhlcjaadoor", sum := "3bc0a2d2d9f86926586f776f53538beac8fc0bac69c954606b93db9174e0c357", func := "trivet/trivetlaw04.OrientSigns", spec := "orientSigns", inPlace := ["math.Float64bits", "math.Float64frombits", "math.archTrunc"], unfollowed := true, recurses := true, named := ["math/bits.deBruijn32tab"], apart := false, laid := [("math/bits.deBruijn32tab", laid_math_bits_deBruijn32tab)], narrowed := true }
def OrientSignsUptoSaid : Prop := orientSignsUptoRow.holds Tryd.pinned (OpenSpec.upto orientSignsSpec)

/-- 'trivetlaw04.OrientKnows', WHERE WHAT IT READS IS OF BULK AT MOST 1048576: true; the input reads as it did. -/
def orientKnowsUptoRow : OpenClaim := { program := "ythnmjkjllhlcjaadoor", sum := "3bc0a2d2d9f86926586f776f53538beac8fc0bac69c954606b93db9174e0c357", func := "trivet/trivetlaw04.OrientKnows", spec := "orientKnows", inPlace := ["math.Float64bits", "math.Float64frombits", "math.archTrunc"], unfollowed := true, recurses := true, named := ["math/bits.deBruijn32tab"], apart := false, laid := [("math/bits.deBruijn32tab", laid_math_bits_deBruijn32tab)], narrowed := true }
def OrientKnowsUptoSaid : Prop := orientKnowsUptoRow.holds Tryd.pinned (OpenSpec.upto orientKnowsSpec)

/-- 'trivetlaw04.OrientMeets', WHERE WHAT IT READS IS OF BULK AT MOST 1048576: true; the input reads as it did. -/
def orientMeetsUptoRow : OpenClaim := { program := "ythnmjkjllhlcjaadoor", sum := "3bc0a2d2d9f86926586f776f53538beac8fc0bac69c954606b93db9174e0c357", func := "trivet/trivetlaw04.OrientMeets", spec := "orientMeets", inPlace := ["math.Float64bits", "math.Float64frombits", "math.archTrunc"], unfollowed := true, recurses := true, named := ["math/bits.deBruijn32tab"], apart := false, laid := [("math/bits.deBruijn32tab", laid_math_bits_deBruijn32tab)], narrowed := true }
def OrientMeetsUptoSaid : Prop := orientMeetsUptoRow.holds Tryd.pinned (OpenSpec.upto orientMeetsSpec)

/-- 'trivetlaw04.OrientTurns', WHERE WHAT IT READS IS OF BULK AT MOST 1048576: true; the input reads as it did. -/
def orientTurnsUptoRow : OpenClaim := { program := "ythnmjkjllhlcjaadoor", sum := "3bc0a2d2d9f86926586f776f53538beac8fc0bac69c954606b93db9174e0c357", func := "trivet/trivetlaw04.OrientTurns", spec := "orientTurns", inPlace := ["math.Float64bits", "math.Float64frombits", "math.archTrunc"], unfollowed := true, recurses := true, named := ["math/bits.deBruijn32tab"], apart := false, laid := [("math/bits.deBruijn32tab", laid_math_bits_deBruijn32tab)], narrowed := true }
def OrientTurnsUptoSaid : Prop := orientTurnsUptoRow.holds Tryd.pinned (OpenSpec.upto orientTurnsSpec)

/-- 'trivetlaw04.OrientAround', WHERE WHAT IT READS IS OF BULK AT MOST 1048576: true; the input reads as it did. -/
def orientAroundUptoRow : OpenClaim := { program := "ythnmjkjllhlcjaadoor", sum := "3bc0a2d2d9f86926586f776f53538beac8fc0bac69c954606b93db9174e0c357", func := "trivet/trivetlaw04.OrientAround", spec := "orientAround", inPlace := ["math.Float64bits", "math.Float64frombits", "math.archTrunc"], unfollowed := true, recurses := true, named := ["math/bits.deBruijn32tab"], apart := false, laid := [("math/bits.deBruijn32tab", laid_math_bits_deBruijn32tab)], narrowed := true }
def OrientAroundUptoSaid : Prop := orientAroundUptoRow.holds Tryd.pinned (OpenSpec.upto orientAroundSpec)

/-- 'trivetlaw04.OrientMoved', WHERE WHAT IT READS IS OF BULK AT MOST 1048576: true; the input reads as it did. -/
def orientMovedUptoRow : OpenClaim := { program := "ythnmjkjllhlcjaadoor", sum := "3bc0a2d2d9f86926586f776f53538beac8fc0bac69c954606b93db9174e0c357", func := "trivet/trivetlaw04.OrientMoved", spec := "orientMoved", inPlace := ["math.Float64bits", "math.Float64frombits", "math.archTrunc"], unfollowed := true, recurses := true, named := ["math/bits.deBruijn32tab"], apart := false, laid := [("math/bits.deBruijn32tab", laid_math_bits_deBruijn32tab)], narrowed := true }
def OrientMovedUptoSaid : Prop := orientMovedUptoRow.holds Tryd.pinned (OpenSpec.upto orientMovedSpec)

/-- 'trivetlaw05.CircleTurns', WHERE WHAT IT READS IS OF BULK AT MOST 1048576: true; the input reads as it did. -/
def circleTurnsUptoRow : OpenClaim := { program := "ythnmjkjllhlcjaadoor", sum := "3bc0a2d2d9f86926586f776f53538beac8fc0bac69c954606b93db9174e0c357", func := "trivet/trivetlaw05.CircleTurns", spec := "circleTurns", inPlace := ["math.Float64bits", "math.Float64frombits", "math.archTrunc"], unfollowed := true, recurses := true, named := ["math/bits.deBruijn32tab"], apart := false, laid := [("math/bits.deBruijn32tab", laid_math_bits_deBruijn32tab)], narrowed := true }
def CircleTurnsUptoSaid : Prop := circleTurnsUptoRow.holds Tryd.pinned (OpenSpec.upto circleTurnsSpec)

/-- 'trivetlaw05.CircleOne', WHERE WHAT IT READS IS OF BULK AT MOST 1048576: true; the input reads as it did. -/
def circleOneUptoRow : OpenClaim := { program := "ythnmjkjllhlcjaadoor", sum := "3bc0a2d2d9f86926586f776f53538beac8fc0bac69c954606b93db9174e0c357", func := "trivet/trivetlaw05.CircleOne", spec := "circleOne", inPlace := ["math.Float64bits", "math.Float64frombits", "math.archTrunc"], unfollowed := true, recurses := true, named := ["math/bits.deBruijn32tab"], apart := false, laid := [("math/bits.deBruijn32tab", laid_math_bits_deBruijn32tab)], narrowed := true }
def CircleOneUptoSaid : Prop := circleOneUptoRow.holds Tryd.pinned (OpenSpec.upto circleOneSpec)

/-- 'trivetlaw05.CircleMoved', WHERE WHAT IT READS IS OF BULK AT MOST 1048576: true; the input reads as it did. -/
def circleMovedUptoRow : OpenClaim := { program := "ythnmjkjllhlcjaadoor", sum := "3bc0a2d2d9f86926586f776f53538beac8fc0bac69c954606b93db9174e0c357", func := "trivet/trivetlaw05.CircleMoved", spec := "circleMoved", inPlace := ["math.Float64bits", "math.Float64frombits", "math.archTrunc"], unfollowed := true, recurses := true, named := ["math/bits.deBruijn32tab"], apart := false, laid := [("math/bits.deBruijn32tab", laid_math_bits_deBruijn32tab)], narrowed := true }
def CircleMovedUptoSaid : Prop := circleMovedUptoRow.holds Tryd.pinned (OpenSpec.upto circleMovedSpec)

/-- 'trivetlaw05.CircleNames', WHERE WHAT IT READS IS OF BULK AT MOST 1048576: true; the input reads as it did. -/
def circleNamesUptoRow : OpenClaim := { program := "ythnmjkjllhlcjaadoor", sum := "3bc0a2d2d9f86926586f776f53538beac8fc0bac69c954606b93db9174e0c357", func := "trivet/trivetlaw05.CircleNames", spec := "circleNames", inPlace := ["math.Float64bits", "math.Float64frombits", "math.archTrunc"], unfollowed := true, recurses := true, named := ["math/bits.deBruijn32tab"], apart := false, laid := [("math/bits.deBruijn32tab", laid_math_bits_deBruijn32tab)], narrowed := true }
def CircleNamesUptoSaid : Prop := circleNamesUptoRow.holds Tryd.pinned (OpenSpec.upto circleNamesSpec)

end Rows
end Go.Proofs.YthnmjkjllhlcjaaDoor
