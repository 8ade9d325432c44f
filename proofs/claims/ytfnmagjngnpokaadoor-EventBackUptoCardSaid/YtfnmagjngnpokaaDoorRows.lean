/-
  NARROWER THAN 'FOR EVERY INPUT', by the rows' own cells (each row's printed sentence says how): EventChecks: loops, laid · EventReads: laid · EventShort: loops, laid · EventVersion: laid · EventSame: loops, laid · EventBack: loops, laid · EventAgain: laid.
  DERIVED. THE GIVEN ROWS OF THIS SEAT. 7 by the template 'for every input the law returns true; each argument reads behind the call as it read before'; 0 by the template 'total and deterministic' (their statements: YtfnmagjngnpokaaDoorTotals.lean).
  GIVEN WITH THE SEED: the statements are not yours to turn. If you find one false, say at which input.
  Laid BY PROGRAM, IN A SANDBOX (cutbox-rows.mjs): the forced cells as the released guide's own fill.sh prints them over the translation 9befbf8ebf07e3fb… (all of the seat's roots in one cut). By AI agents, Wed Nov 11 2026. No macro, syntax, notation, axiom, sorry.
-/
import Derived.Test.YtfnmagjngnpokaaDoorChecked
import GoSem.Claim
import GoSem.ClaimJoined
import GoSem.ClaimMapViews
import Derived.JoinedTies
import Derived.KernelRfl
namespace Go.Proofs.YtfnmagjngnpokaaDoor
/- THE CELL 'sum', in the pinned program and in every row, IS THE sha256 OF THE DUMP (.gsa) THAT YtfnmagjngnpokaaDoorProg.lean LOADS. Nothing in Lean hashes anything: it is a label: what it is worth is what the hold of that sum in a sandbox is worth. -/
noncomputable def Tryd.pinned : Pinned := { name := "ytfnmagjngnpokaadoor", sum := "9befbf8ebf07e3fb2ecd2d6a1b56e979a4942b92abaee52471471fc18a476c51", checked := Tryd.checked }
namespace Rows
def none {H : Type} : Left H := { results := [], args := [] }

/- WHAT THE LISTED PACKAGE-LEVEL VARIABLES READ AS WHEN THE CALL BEGINS. Each datum BY PROGRAM (the guide's laid-datum.mjs) off the statement by which the dump's own 'gosem.cut.vars' lays the variable. In a bare row this is a premise. The card (YtfnmagjngnpokaaDoorCards.lean) ties it to the program's text. -/
def laid_encore_event_fields {H : Type} : DataW H := .agg [.lit (.int .i64 0), .lit (.int .i64 15), .lit (.int .i64 13), .lit (.int .i64 3), .lit (.int .i64 3), .lit (.int .i64 9), .lit (.int .i64 11), .lit (.int .i64 11), .lit (.int .i64 1), .lit (.int .i64 5), .lit (.int .i64 12), .lit (.int .i64 15), .lit (.int .i64 3), .lit (.int .i64 3), .lit (.int .i64 0), .lit (.int .i64 10)]

/-- 'encorelaw08.EventChecks': WHATEVER THE INPUT: true; the input reads as it did. -/
def eventChecksSpec : ChangeSpec := { name := "eventChecks", fn := fun _ => fun
  | [d] => { results := [.lit (.bool true)], args := [d] }
  | _ => none }
def eventChecksRow : OpenClaim := { program := "ytfnmagjngnpokaadoor", sum := "9befbf8ebf07e3fb2ecd2d6a1b56e979a4942b92abaee52471471fc18a476c51", func := "encore/encorelaw08.EventChecks", spec := "eventChecks", unfollowed := true, recurses := true, named := ["encore/event.fields"], loops := true, apart := false, laid := [("encore/event.fields", laid_encore_event_fields)] }
def EventChecksSaid : Prop := eventChecksRow.holds Tryd.pinned (OpenSpec.ofChange eventChecksSpec)

/-- ITS FALSE NEIGHBOUR: 'it returns false'. Refute it at one input. -/
def eventChecksWrong : ChangeSpec := { name := "eventChecks", fn := fun _ => fun
  | [d] => { results := [.lit (.bool false)], args := [d] }
  | _ => none }
def EventChecksWrongFalsely : Prop := eventChecksRow.holds Tryd.pinned (OpenSpec.ofChange eventChecksWrong)

/-- 'encorelaw08.EventReads': WHATEVER THE INPUT: true; the input reads as it did. -/
def eventReadsSpec : ChangeSpec := { name := "eventReads", fn := fun _ => fun
  | [d] => { results := [.lit (.bool true)], args := [d] }
  | _ => none }
def eventReadsRow : OpenClaim := { program := "ytfnmagjngnpokaadoor", sum := "9befbf8ebf07e3fb2ecd2d6a1b56e979a4942b92abaee52471471fc18a476c51", func := "encore/encorelaw08.EventReads", spec := "eventReads", unfollowed := true, recurses := true, named := ["encore/event.fields"], apart := false, laid := [("encore/event.fields", laid_encore_event_fields)] }
def EventReadsSaid : Prop := eventReadsRow.holds Tryd.pinned (OpenSpec.ofChange eventReadsSpec)

/-- ITS FALSE NEIGHBOUR: 'it returns false'. Refute it at one input. -/
def eventReadsWrong : ChangeSpec := { name := "eventReads", fn := fun _ => fun
  | [d] => { results := [.lit (.bool false)], args := [d] }
  | _ => none }
def EventReadsWrongFalsely : Prop := eventReadsRow.holds Tryd.pinned (OpenSpec.ofChange eventReadsWrong)

/-- 'encorelaw08.EventShort': WHATEVER THE INPUT: true; the input reads as it did. -/
def eventShortSpec : ChangeSpec := { name := "eventShort", fn := fun _ => fun
  | [d1, d2] => { results := [.lit (.bool true)], args := [d1, d2] }
  | _ => none }
def eventShortRow : OpenClaim := { program := "ytfnmagjngnpokaadoor", sum := "9befbf8ebf07e3fb2ecd2d6a1b56e979a4942b92abaee52471471fc18a476c51", func := "encore/encorelaw08.EventShort", spec := "eventShort", unfollowed := true, recurses := true, named := ["encore/event.fields"], loops := true, apart := false, laid := [("encore/event.fields", laid_encore_event_fields)] }
def EventShortSaid : Prop := eventShortRow.holds Tryd.pinned (OpenSpec.ofChange eventShortSpec)

/-- ITS FALSE NEIGHBOUR: 'it returns false'. Refute it at one input. -/
def eventShortWrong : ChangeSpec := { name := "eventShort", fn := fun _ => fun
  | [d1, d2] => { results := [.lit (.bool false)], args := [d1, d2] }
  | _ => none }
def EventShortWrongFalsely : Prop := eventShortRow.holds Tryd.pinned (OpenSpec.ofChange eventShortWrong)

/-- 'encorelaw08.EventVersion': WHATEVER THE INPUT: true; the input reads as it did. -/
def eventVersionSpec : ChangeSpec := { name := "eventVersion", fn := fun _ => fun
  | [d1, d2] => { results := [.lit (.bool true)], args := [d1, d2] }
  | _ => none }
def eventVersionRow : OpenClaim := { program := "ytfnmagjngnpokaadoor", sum := "9befbf8ebf07e3fb2ecd2d6a1b56e979a4942b92abaee52471471fc18a476c51", func := "encore/encorelaw08.EventVersion", spec := "eventVersion", unfollowed := true, recurses := true, named := ["encore/event.fields"], apart := false, laid := [("encore/event.fields", laid_encore_event_fields)] }
def EventVersionSaid : Prop := eventVersionRow.holds Tryd.pinned (OpenSpec.ofChange eventVersionSpec)

/-- ITS FALSE NEIGHBOUR: 'it returns false'. Refute it at one input. -/
def eventVersionWrong : ChangeSpec := { name := "eventVersion", fn := fun _ => fun
  | [d1, d2] => { results := [.lit (.bool false)], args := [d1, d2] }
  | _ => none }
def EventVersionWrongFalsely : Prop := eventVersionRow.holds Tryd.pinned (OpenSpec.ofChange eventVersionWrong)

/-- 'encorelaw08.EventSame': WHATEVER THE INPUT: true; the input reads as it did. -/
def eventSameSpec : ChangeSpec := { name := "eventSame", fn := fun _ => fun
  | [d1, d2] => { results := [.lit (.bool true)], args := [d1, d2] }
  | _ => none }
def eventSameRow : OpenClaim := { program := "ytfnmagjngnpokaadoor", sum := "9befbf8ebf07e3fb2ecd2d6a1b56e979a4942b92abaee52471471fc18a476c51", func := "encore/encorelaw08.EventSame", spec := "eventSame", unfollowed := true, recurses := true, named := ["encore/event.fields"], loops := true, apart := false, laid := [("encore/event.fields", laid_encore_event_fields)] }
def EventSameSaid : Prop := eventSameRow.holds Tryd.pinned (OpenSpec.ofChange eventSameSpec)

/-- ITS FALSE NEIGHBOUR: 'it returns false'. Refute it at one input. -/
def eventSameWrong : ChangeSpec := { name := "eventSame", fn := fun _ => fun
  | [d1, d2] => { results := [.lit (.bool false)], args := [d1, d2] }
  | _ => none }
def EventSameWrongFalsely : Prop := eventSameRow.holds Tryd.pinned (OpenSpec.ofChange eventSameWrong)

/-- 'encorelaw08.EventBack': WHATEVER THE INPUT: true; the input reads as it did. -/
def eventBackSpec : ChangeSpec := { name := "eventBack", fn := fun _ => fun
  | [d1, d2] => { results := [.lit (.bool true)], args := [d1, d2] }
  | _ => none }
def eventBackRow : OpenClaim := { program := "ytfnmagjngnpokaadoor", sum := "9befbf8ebf07e3fb2ecd2d6a1b56e979a4942b92abaee52471471fc18a476c51", func := "encore/encorelaw08.EventBack", spec := "eventBack", unfollowed := true, recurses := true, named := ["encore/event.fields"], loops := true, apart := false, laid := [("encore/event.fields", laid_encore_event_fields)] }
def EventBackSaid : Prop := eventBackRow.holds Tryd.pinned (OpenSpec.ofChange eventBackSpec)

/-- ITS FALSE NEIGHBOUR: 'it returns false'. Refute it at one input. -/
def eventBackWrong : ChangeSpec := { name := "eventBack", fn := fun _ => fun
  | [d1, d2] => { results := [.lit (.bool false)], args := [d1, d2] }
  | _ => none }
def EventBackWrongFalsely : Prop := eventBackRow.holds Tryd.pinned (OpenSpec.ofChange eventBackWrong)

/-- 'encorelaw08.EventAgain': WHATEVER THE INPUT: true; the input reads as it did. -/
def eventAgainSpec : ChangeSpec := { name := "eventAgain", fn := fun _ => fun
  | [d] => { results := [.lit (.bool true)], args := [d] }
  | _ => none }
def eventAgainRow : OpenClaim := { program := "ytfnmagjngnpokaadoor", sum := "9befbf8ebf07e3fb2ecd2d6a1b56e979a4942b92abaee52471471fc18a476c51", func := "encore/encorelaw08.EventAgain", spec := "eventAgain", unfollowed := true, recurses := true, named := ["encore/event.fields"], apart := false, laid := [("encore/event.fields", laid_encore_event_fields)] }
def EventAgainSaid : Prop := eventAgainRow.holds Tryd.pinned (OpenSpec.ofChange eventAgainSpec)

/-- ITS FALSE NEIGHBOUR: 'it returns false'. Refute it at one input. -/
def eventAgainWrong : ChangeSpec := { name := "eventAgain", fn := fun _ => fun
  | [d] => { results := [.lit (.bool false)], args := [d] }
  | _ => none }
def EventAgainWrongFalsely : Prop := eventAgainRow.holds Tryd.pinned (OpenSpec.ofChange eventAgainWrong)

/- THE SECOND FORM. 'bulk': how many values and letters a reading holds, each counted each time it is reached (what is shared counts as often as it is met; a slice's spare places count too). A statement '..UptoSaid' is the law's where the arguments, and the package variables that the reading takes, are together of bulk at most 1048576: NARROWER than '..Said'. Prove '..Said' where nothing that the law and all that it calls make is longer than what came in: it says more and counts as full. Else prove '..UptoSaid'. A law counts once. -/
mutual
def uptoBulk {H : Type} : DataW H → Nat
  | .lit (.string bytes) => bytes.length + 1
  | .lit _ => 1
  | .nil => 1
  | .ptr d => uptoBulk d + 1
  | .slice elems spare => uptoBulkAll elems + uptoBulkAll spare + 1
  | .agg parts => uptoBulkAll parts + 1
  | .iface _ d => uptoBulk d + 1
  | .map entries => uptoBulkEntries entries + 1
  | .held _ => 1
def uptoBulkAll {H : Type} : List (DataW H) → Nat
  | [] => 0
  | d :: r => uptoBulk d + uptoBulkAll r
def uptoBulkEntries {H : Type} : List (Lit × DataW H) → Nat
  | [] => 0
  | x :: r => uptoBulkEntry x + uptoBulkEntries r
def uptoBulkEntry {H : Type} : Lit × DataW H → Nat
  | (.string bytes, d) => bytes.length + uptoBulk d + 1
  | (_, d) => uptoBulk d + 1
 end
def uptoSmall : (H : Type) → List (DataW H) → Bool := fun _ ds => decide (uptoBulkAll ds ≤ 1048576)
def OpenSpec.upto (s : _root_.Go.ChangeSpec) : _root_.Go.OpenSpec := { _root_.Go.OpenSpec.ofChange s with cond := some uptoSmall }

/-- 'encorelaw08.EventChecks', WHERE WHAT IT READS IS OF BULK AT MOST 1048576: true; the input reads as it did. -/
def eventChecksUptoRow : OpenClaim := { program := "ytfnmagjngnpokaadoor", sum := "9befbf8ebf07e3fb2ecd2d6a1b56e979a4942b92abaee52471471fc18a476c51", func := "encore/encorelaw08.EventChecks", spec := "eventChecks", unfollowed := true, recurses := true, named := ["encore/event.fields"], loops := true, apart := false, laid := [("encore/event.fields", laid_encore_event_fields)], narrowed := true }
def EventChecksUptoSaid : Prop := eventChecksUptoRow.holds Tryd.pinned (OpenSpec.upto eventChecksSpec)

/-- 'encorelaw08.EventReads', WHERE WHAT IT READS IS OF BULK AT MOST 1048576: true; the input reads as it did. -/
def eventReadsUptoRow : OpenClaim := { program := "ytfnmagjngnpokaadoor", sum := "9befbf8ebf07e3fb2ecd2d6a1b56e979a4942b92abaee52471471fc18a476c51", func := "encore/encorelaw08.EventReads", spec := "eventReads", unfollowed := true, recurses := true, named := ["encore/event.fields"], apart := false, laid := [("encore/event.fields", laid_encore_event_fields)], narrowed := true }
def EventReadsUptoSaid : Prop := eventReadsUptoRow.holds Tryd.pinned (OpenSpec.upto eventReadsSpec)

/-- 'encorelaw08.EventShort', WHERE WHAT IT READS IS OF BULK AT MOST 1048576: true; the input reads as it did. -/
def eventShortUptoRow : OpenClaim := { program := "ytfnmagjngnpokaadoor", sum := "9befbf8ebf07e3fb2ecd2d6a1b56e979a4942b92abaee52471471fc18a476c51", func := "encore/encorelaw08.EventShort", spec := "eventShort", unfollowed := true, recurses := true, named := ["encore/event.fields"], loops := true, apart := false, laid := [("encore/event.fields", laid_encore_event_fields)], narrowed := true }
def EventShortUptoSaid : Prop := eventShortUptoRow.holds Tryd.pinned (OpenSpec.upto eventShortSpec)

/-- 'encorelaw08.EventVersion', WHERE WHAT IT READS IS OF BULK AT MOST 1048576: true; the input reads as it did. -/
def eventVersionUptoRow : OpenClaim := { program := "ytfnmagjngnpokaadoor", sum := "9befbf8ebf07e3fb2ecd2d6a1b56e979a4942b92abaee52471471fc18a476c51", func := "encore/encorelaw08.EventVersion", spec := "eventVersion", unfollowed := true, recurses := true, named := ["encore/event.fields"], apart := false, laid := [("encore/event.fields", laid_encore_event_fields)], narrowed := true }
def EventVersionUptoSaid : Prop := eventVersionUptoRow.holds Tryd.pinned (OpenSpec.upto eventVersionSpec)

/-- 'encorelaw08.EventSame', WHERE WHAT IT READS IS OF BULK AT MOST 1048576: true; the input reads as it did. -/
def eventSameUptoRow : OpenClaim := { program := "ytfnmagjngnpokaadoor", sum := "9befbf8ebf07e3fb2ecd2d6a1b56e979a4942b92abaee52471471fc18a476c51", func := "encore/encorelaw08.EventSame", spec := "eventSame", unfollowed := true, recurses := true, named := ["encore/event.fields"], loops := true, apart := false, laid := [("encore/event.fields", laid_encore_event_fields)], narrowed := true }
def EventSameUptoSaid : Prop := eventSameUptoRow.holds Tryd.pinned (OpenSpec.upto eventSameSpec)

/-- 'encorelaw08.EventBack', WHERE WHAT IT READS IS OF BULK AT MOST 1048576: true; the input reads as it did. -/
def eventBackUptoRow : OpenClaim := { program := "ytfnmagjngnpokaadoor", sum := "9befbf8ebf07e3fb2ecd2d6a1b56e979a4942b92abaee52471471fc18a476c51", func := "encore/encorelaw08.EventBack", spec := "eventBack", unfollowed := true, recurses := true, named := ["encore/event.fields"], loops := true, apart := false, laid := [("encore/event.fields", laid_encore_event_fields)], narrowed := true }
def EventBackUptoSaid : Prop := eventBackUptoRow.holds Tryd.pinned (OpenSpec.upto eventBackSpec)

/-- 'encorelaw08.EventAgain', WHERE WHAT IT READS IS OF BULK AT MOST 1048576: true; the input reads as it did. -/
def eventAgainUptoRow : OpenClaim := { program := "ytfnmagjngnpokaadoor", sum := "9befbf8ebf07e3fb2ecd2d6a1b56e979a4942b92abaee52471471fc18a476c51", func := "encore/encorelaw08.EventAgain", spec := "eventAgain", unfollowed := true, recurses := true, named := ["encore/event.fields"], apart := false, laid := [("encore/event.fields", laid_encore_event_fields)], narrowed := true }
def EventAgainUptoSaid : Prop := eventAgainUptoRow.holds Tryd.pinned (OpenSpec.upto eventAgainSpec)

end Rows
end Go.Proofs.YtfnmagjngnpokaaDoor
