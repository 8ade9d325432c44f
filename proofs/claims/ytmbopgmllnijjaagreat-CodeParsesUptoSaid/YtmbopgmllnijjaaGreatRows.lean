/-
  NARROWER THAN 'FOR EVERY INPUT', by the rows' own cells (each row's printed sentence says how): VerifyFunc: loops · VerifyProgram: loops · CodeChecks: loops · CodeBytes: loops.
  DERIVED. THE GIVEN ROWS OF THIS SEAT. 5 by the template 'for every input the law returns true; each argument reads behind the call as it read before'; 0 by the template 'total and deterministic' (their statements: YtmbopgmllnijjaaGreatTotals.lean).
  GIVEN WITH THE SEED: the statements are not yours to turn. If you find one false, say at which input.
  Laid BY PROGRAM, IN A SANDBOX (cutbox-rows.mjs): the forced cells as the released guide's own fill.sh prints them over the translation a49c6d3e7c755796… (all of the seat's roots in one cut). By AI agents, Wed Nov 11 2026. No macro, syntax, notation, axiom, sorry.
-/
import Derived.Test.YtmbopgmllnijjaaGreatChecked
import GoSem.Claim
import GoSem.ClaimJoined
import GoSem.ClaimMapViews
import Derived.JoinedTies
import Derived.KernelRfl
namespace Go.Proofs.YtmbopgmllnijjaaGreat
/- THE CELL 'sum', in the pinned program and in every row, IS THE sha256 OF THE DUMP (.gsa) THAT YtmbopgmllnijjaaGreatProg.lean LOADS. Nothing in Lean hashes anything: it is a label: what it is worth is what the hold of that sum in a sandbox is worth. -/
noncomputable def Tryz.pinned : Pinned := { name := "ytmbopgmllnijjaagreat", sum := "a49c6d3e7c755796bd3bafefd96dbd8523b811ada84695d11236cf48fa593026", checked := Tryz.checked }
namespace Rows
def none {H : Type} : Left H := { results := [], args := [] }

/-- 'encorelaw17.VerifyFunc': WHATEVER THE INPUT: true; the input reads as it did. -/
def verifyFuncSpec : ChangeSpec := { name := "verifyFunc", fn := fun _ => fun
  | [d1, d2] => { results := [.lit (.bool true)], args := [d1, d2] }
  | _ => none }
def verifyFuncRow : OpenClaim := { program := "ytmbopgmllnijjaagreat", sum := "a49c6d3e7c755796bd3bafefd96dbd8523b811ada84695d11236cf48fa593026", func := "encore/encorelaw17.VerifyFunc", spec := "verifyFunc", inPlace := ["internal/bytealg.IndexByteString", "internal/bytealg.IndexString"], unfollowed := true, recurses := true, named := ["internal/bytealg.MaxLen"], loops := true, apart := false }
def VerifyFuncSaid : Prop := verifyFuncRow.holds Tryz.pinned (OpenSpec.ofChange verifyFuncSpec)

/-- ITS FALSE NEIGHBOUR: 'it returns false'. Refute it at one input. -/
def verifyFuncWrong : ChangeSpec := { name := "verifyFunc", fn := fun _ => fun
  | [d1, d2] => { results := [.lit (.bool false)], args := [d1, d2] }
  | _ => none }
def VerifyFuncWrongFalsely : Prop := verifyFuncRow.holds Tryz.pinned (OpenSpec.ofChange verifyFuncWrong)

/-- 'encorelaw17.VerifyProgram': WHATEVER THE INPUT: true; the input reads as it did. -/
def verifyProgramSpec : ChangeSpec := { name := "verifyProgram", fn := fun _ => fun
  | [d] => { results := [.lit (.bool true)], args := [d] }
  | _ => none }
def verifyProgramRow : OpenClaim := { program := "ytmbopgmllnijjaagreat", sum := "a49c6d3e7c755796bd3bafefd96dbd8523b811ada84695d11236cf48fa593026", func := "encore/encorelaw17.VerifyProgram", spec := "verifyProgram", inPlace := ["internal/bytealg.IndexByteString", "internal/bytealg.IndexString"], unfollowed := true, recurses := true, named := ["internal/bytealg.MaxLen"], loops := true, apart := false }
def VerifyProgramSaid : Prop := verifyProgramRow.holds Tryz.pinned (OpenSpec.ofChange verifyProgramSpec)

/-- ITS FALSE NEIGHBOUR: 'it returns false'. Refute it at one input. -/
def verifyProgramWrong : ChangeSpec := { name := "verifyProgram", fn := fun _ => fun
  | [d] => { results := [.lit (.bool false)], args := [d] }
  | _ => none }
def VerifyProgramWrongFalsely : Prop := verifyProgramRow.holds Tryz.pinned (OpenSpec.ofChange verifyProgramWrong)

/-- 'encorelaw15.CodeChecks': WHATEVER THE INPUT: true; the input reads as it did. -/
def codeChecksSpec : ChangeSpec := { name := "codeChecks", fn := fun _ => fun
  | [d] => { results := [.lit (.bool true)], args := [d] }
  | _ => none }
def codeChecksRow : OpenClaim := { program := "ytmbopgmllnijjaagreat", sum := "a49c6d3e7c755796bd3bafefd96dbd8523b811ada84695d11236cf48fa593026", func := "encore/encorelaw15.CodeChecks", spec := "codeChecks", inPlace := ["internal/bytealg.IndexByteString", "internal/bytealg.IndexString"], unfollowed := true, recurses := true, named := ["internal/bytealg.MaxLen"], loops := true, apart := false }
def CodeChecksSaid : Prop := codeChecksRow.holds Tryz.pinned (OpenSpec.ofChange codeChecksSpec)

/-- ITS FALSE NEIGHBOUR: 'it returns false'. Refute it at one input. -/
def codeChecksWrong : ChangeSpec := { name := "codeChecks", fn := fun _ => fun
  | [d] => { results := [.lit (.bool false)], args := [d] }
  | _ => none }
def CodeChecksWrongFalsely : Prop := codeChecksRow.holds Tryz.pinned (OpenSpec.ofChange codeChecksWrong)

/-- 'encorelaw15.CodeBytes': WHATEVER THE INPUT: true; the input reads as it did. -/
def codeBytesSpec : ChangeSpec := { name := "codeBytes", fn := fun _ => fun
  | [d] => { results := [.lit (.bool true)], args := [d] }
  | _ => none }
def codeBytesRow : OpenClaim := { program := "ytmbopgmllnijjaagreat", sum := "a49c6d3e7c755796bd3bafefd96dbd8523b811ada84695d11236cf48fa593026", func := "encore/encorelaw15.CodeBytes", spec := "codeBytes", inPlace := ["internal/bytealg.IndexByteString", "internal/bytealg.IndexString"], unfollowed := true, recurses := true, named := ["internal/bytealg.MaxLen"], loops := true, apart := false }
def CodeBytesSaid : Prop := codeBytesRow.holds Tryz.pinned (OpenSpec.ofChange codeBytesSpec)

/-- ITS FALSE NEIGHBOUR: 'it returns false'. Refute it at one input. -/
def codeBytesWrong : ChangeSpec := { name := "codeBytes", fn := fun _ => fun
  | [d] => { results := [.lit (.bool false)], args := [d] }
  | _ => none }
def CodeBytesWrongFalsely : Prop := codeBytesRow.holds Tryz.pinned (OpenSpec.ofChange codeBytesWrong)

/-- 'encorelaw15.CodeParses': WHATEVER THE INPUT: true; the input reads as it did. -/
def codeParsesSpec : ChangeSpec := { name := "codeParses", fn := fun _ => fun
  | [d] => { results := [.lit (.bool true)], args := [d] }
  | _ => none }
def codeParsesRow : OpenClaim := { program := "ytmbopgmllnijjaagreat", sum := "a49c6d3e7c755796bd3bafefd96dbd8523b811ada84695d11236cf48fa593026", func := "encore/encorelaw15.CodeParses", spec := "codeParses", inPlace := ["internal/bytealg.IndexByteString", "internal/bytealg.IndexString"], unfollowed := true, recurses := true, named := ["internal/bytealg.MaxLen"], apart := false }
def CodeParsesSaid : Prop := codeParsesRow.holds Tryz.pinned (OpenSpec.ofChange codeParsesSpec)

/-- ITS FALSE NEIGHBOUR: 'it returns false'. Refute it at one input. -/
def codeParsesWrong : ChangeSpec := { name := "codeParses", fn := fun _ => fun
  | [d] => { results := [.lit (.bool false)], args := [d] }
  | _ => none }
def CodeParsesWrongFalsely : Prop := codeParsesRow.holds Tryz.pinned (OpenSpec.ofChange codeParsesWrong)

/- THE SECOND FORM. 'bulk': how many values and letters a reading holds, each counted each time it is reached (what is shared counts as often as it is met; a slice's spare places count too). A statement '..UptoSaid' is the law's where the arguments, and the package variables that the reading takes, are together of bulk at most 1048576: NARROWER than '..Said'. Prove '..Said' where nothing that the law and all that it calls make is longer than what came in: it says more and counts as full. Else prove '..UptoSaid'. A law counts once. -/
mutual
def uptoBulk {H : Type} : DataW H → Nat
  | .lit (.string bytes) => bytes.length + 1
  | .lit _ => 1
  | .nil => 1
  | .ptr d => uptoBulk d + 1
  | .slice elems spare => uptoBulkAll elems + uptoBulkAll spare + 1
  | .agg parts => uptoBulkAll parts + 1
  | .iface _ d => uptoBulk d + 1
  | .map entries => uptoBulkEntries entries + 1
  | .held _ => 1
def uptoBulkAll {H : Type} : List (DataW H) → Nat
  | [] => 0
  | d :: r => uptoBulk d + uptoBulkAll r
def uptoBulkEntries {H : Type} : List (Lit × DataW H) → Nat
  | [] => 0
  | x :: r => uptoBulkEntry x + uptoBulkEntries r
def uptoBulkEntry {H : Type} : Lit × DataW H → Nat
  | (.string bytes, d) => bytes.length + uptoBulk d + 1
  | (_, d) => uptoBulk d + 1
 end
def uptoSmall : (H : Type) → List (DataW H) → Bool := fun _ ds => decide (uptoBulkAll ds ≤ 1048576)
def OpenSpec.upto (s : _root_.Go.ChangeSpec) : _root_.Go.OpenSpec := { _root_.Go.OpenSpec.ofChange s with cond := some uptoSmall }

/-- 'encorelaw17.VerifyFunc', WHERE WHAT IT READS IS OF BULK AT MOST 1048576: true; the input reads as it did. -/
def verifyFuncUptoRow : OpenClaim := { program := "ytmbopgmllnijjaagreat", sum := "a49c6d3e7c755796bd3bafefd96dbd8523b811ada84695d11236cf48fa593026", func := "encore/encorelaw17.VerifyFunc", spec := "verifyFunc", inPlace := ["internal/bytealg.IndexByteString", "internal/bytealg.IndexString"], unfollowed := true, recurses := true, named := ["internal/bytealg.MaxLen"], loops := true, apart := false, narrowed := true }
def VerifyFuncUptoSaid : Prop := verifyFuncUptoRow.holds Tryz.pinned (OpenSpec.upto verifyFuncSpec)

/-- 'encorelaw17.VerifyProgram', WHERE WHAT IT READS IS OF BULK AT MOST 1048576: true; the input reads as it did. -/
def verifyProgramUptoRow : OpenClaim := { program := "ytmbopgmllnijjaagreat", sum := "a49c6d3e7c755796bd3bafefd96dbd8523b811ada84695d11236cf48fa593026", func := "encore/encorelaw17.VerifyProgram", spec := "verifyProgram", inPlace := ["internal/bytealg.IndexByteString", "internal/bytealg.IndexString"], unfollowed := true, recurses := true, named := ["internal/bytealg.MaxLen"], loops := true, apart := false, narrowed := true }
def VerifyProgramUptoSaid : Prop := verifyProgramUptoRow.holds Tryz.pinned (OpenSpec.upto verifyProgramSpec)

/-- 'encorelaw15.CodeChecks', WHERE WHAT IT READS IS OF BULK AT MOST 1048576: true; the input reads as it did. -/
def codeChecksUptoRow : OpenClaim := { program := "ytmbopgmllnijjaagreat", sum := "a49c6d3e7c755796bd3bafefd96dbd8523b811ada84695d11236cf48fa593026", func := "encore/encorelaw15.CodeChecks", spec := "codeChecks", inPlace := ["internal/bytealg.IndexByteString", "internal/bytealg.IndexString"], unfollowed := true, recurses := true, named := ["internal/bytealg.MaxLen"], loops := true, apart := false, narrowed := true }
def CodeChecksUptoSaid : Prop := codeChecksUptoRow.holds Tryz.pinned (OpenSpec.upto codeChecksSpec)

/-- 'encorelaw15.CodeBytes', WHERE WHAT IT READS IS OF BULK AT MOST 1048576: true; the input reads as it did. -/
def codeBytesUptoRow : OpenClaim := { program := "ytmbopgmllnijjaagreat", sum := "a49c6d3e7c755796bd3bafefd96dbd8523b811ada84695d11236cf48fa593026", func := "encore/encorelaw15.CodeBytes", spec := "codeBytes", inPlace := ["internal/bytealg.IndexByteString", "internal/bytealg.IndexString"], unfollowed := true, recurses := true, named := ["internal/bytealg.MaxLen"], loops := true, apart := false, narrowed := true }
def CodeBytesUptoSaid : Prop := codeBytesUptoRow.holds Tryz.pinned (OpenSpec.upto codeBytesSpec)

/-- 'encorelaw15.CodeParses', WHERE WHAT IT READS IS OF BULK AT MOST 1048576: true; the input reads as it did. -/
def codeParsesUptoRow : OpenClaim := { program := "ytmbopgmllnijjaagreat", sum := "a49c6d3e7c755796bd3bafefd96dbd8523b811ada84695d11236cf48fa593026", func := "encore/encorelaw15.CodeParses", spec := "codeParses", inPlace := ["internal/bytealg.IndexByteString", "internal/bytealg.IndexString"], unfollowed := true, recurses := true, named := ["internal/bytealg.MaxLen"], apart := false, narrowed := true }
def CodeParsesUptoSaid : Prop := codeParsesUptoRow.holds Tryz.pinned (OpenSpec.upto codeParsesSpec)

end Rows
end Go.Proofs.YtmbopgmllnijjaaGreat
