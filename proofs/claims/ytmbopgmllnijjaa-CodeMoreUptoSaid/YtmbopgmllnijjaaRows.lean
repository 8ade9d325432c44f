/-
  NARROWER THAN 'FOR EVERY INPUT', by the rows' own cells (each row's printed sentence says how): VerifySure: loops · VerifyBounds: loops · VerifyBehind: loops · VerifyEach: loops · CodeBack: loops · CodeCut: loops · CodeMore: loops · CodeMoves: loops.
  DERIVED. THE GIVEN ROWS OF THIS SEAT. 11 by the template 'for every input the law returns true; each argument reads behind the call as it read before'; 0 by the template 'total and deterministic' (their statements: YtmbopgmllnijjaaTotals.lean).
  GIVEN WITH THE SEED: the statements are not yours to turn. If you find one false, say at which input.
  Laid BY PROGRAM, IN A SANDBOX (cutbox-rows.mjs): the forced cells as the released guide's own fill.sh prints them over the translation c353d4f528e41a1d… (all of the seat's roots in one cut). By AI agents, Wed Nov 11 2026. No macro, syntax, notation, axiom, sorry.
-/
import Derived.Test.YtmbopgmllnijjaaChecked
import GoSem.Claim
import GoSem.ClaimJoined
import GoSem.ClaimMapViews
import Derived.JoinedTies
import Derived.KernelRfl
namespace Go.Proofs.Ytmbopgmllnijjaa
/- THE CELL 'sum', in the pinned program and in every row, IS THE sha256 OF THE DUMP (.gsa) THAT YtmbopgmllnijjaaProg.lean LOADS. Nothing in Lean hashes anything: it is a label: what it is worth is what the hold of that sum in a sandbox is worth. -/
noncomputable def Try.pinned : Pinned := { name := "ytmbopgmllnijjaa", sum := "c353d4f528e41a1dc97c03654b557e7460d07f2da3e05bdae24a4ea1b0d69a0e", checked := Try.checked }
namespace Rows
def none {H : Type} : Left H := { results := [], args := [] }

/-- 'encorelaw17.VerifySure': WHATEVER THE INPUT: true; the input reads as it did. -/
def verifySureSpec : ChangeSpec := { name := "verifySure", fn := fun _ => fun
  | [d] => { results := [.lit (.bool true)], args := [d] }
  | _ => none }
def verifySureRow : OpenClaim := { program := "ytmbopgmllnijjaa", sum := "c353d4f528e41a1dc97c03654b557e7460d07f2da3e05bdae24a4ea1b0d69a0e", func := "encore/encorelaw17.VerifySure", spec := "verifySure", inPlace := ["internal/bytealg.IndexByteString", "internal/bytealg.IndexString"], unfollowed := true, recurses := true, named := ["internal/bytealg.MaxLen"], loops := true, apart := false }
def VerifySureSaid : Prop := verifySureRow.holds Try.pinned (OpenSpec.ofChange verifySureSpec)

/-- ITS FALSE NEIGHBOUR: 'it returns false'. Refute it at one input. -/
def verifySureWrong : ChangeSpec := { name := "verifySure", fn := fun _ => fun
  | [d] => { results := [.lit (.bool false)], args := [d] }
  | _ => none }
def VerifySureWrongFalsely : Prop := verifySureRow.holds Try.pinned (OpenSpec.ofChange verifySureWrong)

/-- 'encorelaw17.VerifyBounds': WHATEVER THE INPUT: true; the input reads as it did. -/
def verifyBoundsSpec : ChangeSpec := { name := "verifyBounds", fn := fun _ => fun
  | [d1, d2] => { results := [.lit (.bool true)], args := [d1, d2] }
  | _ => none }
def verifyBoundsRow : OpenClaim := { program := "ytmbopgmllnijjaa", sum := "c353d4f528e41a1dc97c03654b557e7460d07f2da3e05bdae24a4ea1b0d69a0e", func := "encore/encorelaw17.VerifyBounds", spec := "verifyBounds", inPlace := ["internal/bytealg.IndexByteString", "internal/bytealg.IndexString"], unfollowed := true, recurses := true, named := ["internal/bytealg.MaxLen"], loops := true, apart := false }
def VerifyBoundsSaid : Prop := verifyBoundsRow.holds Try.pinned (OpenSpec.ofChange verifyBoundsSpec)

/-- ITS FALSE NEIGHBOUR: 'it returns false'. Refute it at one input. -/
def verifyBoundsWrong : ChangeSpec := { name := "verifyBounds", fn := fun _ => fun
  | [d1, d2] => { results := [.lit (.bool false)], args := [d1, d2] }
  | _ => none }
def VerifyBoundsWrongFalsely : Prop := verifyBoundsRow.holds Try.pinned (OpenSpec.ofChange verifyBoundsWrong)

/-- 'encorelaw17.VerifyBehind': WHATEVER THE INPUT: true; the input reads as it did. -/
def verifyBehindSpec : ChangeSpec := { name := "verifyBehind", fn := fun _ => fun
  | [d1, d2] => { results := [.lit (.bool true)], args := [d1, d2] }
  | _ => none }
def verifyBehindRow : OpenClaim := { program := "ytmbopgmllnijjaa", sum := "c353d4f528e41a1dc97c03654b557e7460d07f2da3e05bdae24a4ea1b0d69a0e", func := "encore/encorelaw17.VerifyBehind", spec := "verifyBehind", inPlace := ["internal/bytealg.IndexByteString", "internal/bytealg.IndexString"], unfollowed := true, recurses := true, named := ["internal/bytealg.MaxLen"], loops := true, apart := false }
def VerifyBehindSaid : Prop := verifyBehindRow.holds Try.pinned (OpenSpec.ofChange verifyBehindSpec)

/-- ITS FALSE NEIGHBOUR: 'it returns false'. Refute it at one input. -/
def verifyBehindWrong : ChangeSpec := { name := "verifyBehind", fn := fun _ => fun
  | [d1, d2] => { results := [.lit (.bool false)], args := [d1, d2] }
  | _ => none }
def VerifyBehindWrongFalsely : Prop := verifyBehindRow.holds Try.pinned (OpenSpec.ofChange verifyBehindWrong)

/-- 'encorelaw17.VerifyEach': WHATEVER THE INPUT: true; the input reads as it did. -/
def verifyEachSpec : ChangeSpec := { name := "verifyEach", fn := fun _ => fun
  | [d] => { results := [.lit (.bool true)], args := [d] }
  | _ => none }
def verifyEachRow : OpenClaim := { program := "ytmbopgmllnijjaa", sum := "c353d4f528e41a1dc97c03654b557e7460d07f2da3e05bdae24a4ea1b0d69a0e", func := "encore/encorelaw17.VerifyEach", spec := "verifyEach", inPlace := ["internal/bytealg.IndexByteString", "internal/bytealg.IndexString"], unfollowed := true, recurses := true, named := ["internal/bytealg.MaxLen"], loops := true, apart := false }
def VerifyEachSaid : Prop := verifyEachRow.holds Try.pinned (OpenSpec.ofChange verifyEachSpec)

/-- ITS FALSE NEIGHBOUR: 'it returns false'. Refute it at one input. -/
def verifyEachWrong : ChangeSpec := { name := "verifyEach", fn := fun _ => fun
  | [d] => { results := [.lit (.bool false)], args := [d] }
  | _ => none }
def VerifyEachWrongFalsely : Prop := verifyEachRow.holds Try.pinned (OpenSpec.ofChange verifyEachWrong)

/-- 'encorelaw17.VerifyNames': WHATEVER THE INPUT: true; the input reads as it did. -/
def verifyNamesSpec : ChangeSpec := { name := "verifyNames", fn := fun _ => fun
  | [] => { results := [.lit (.bool true)], args := [] }
  | _ => none }
def verifyNamesRow : OpenClaim := { program := "ytmbopgmllnijjaa", sum := "c353d4f528e41a1dc97c03654b557e7460d07f2da3e05bdae24a4ea1b0d69a0e", func := "encore/encorelaw17.VerifyNames", spec := "verifyNames", inPlace := ["internal/bytealg.IndexByteString", "internal/bytealg.IndexString"], unfollowed := true, recurses := true, named := ["internal/bytealg.MaxLen"], apart := false }
def VerifyNamesSaid : Prop := verifyNamesRow.holds Try.pinned (OpenSpec.ofChange verifyNamesSpec)

/-- ITS FALSE NEIGHBOUR: 'it returns false'. Refute it at one input. -/
def verifyNamesWrong : ChangeSpec := { name := "verifyNames", fn := fun _ => fun
  | [] => { results := [.lit (.bool false)], args := [] }
  | _ => none }
def VerifyNamesWrongFalsely : Prop := verifyNamesRow.holds Try.pinned (OpenSpec.ofChange verifyNamesWrong)

/-- 'encorelaw15.CodeBack': WHATEVER THE INPUT: true; the input reads as it did. -/
def codeBackSpec : ChangeSpec := { name := "codeBack", fn := fun _ => fun
  | [d] => { results := [.lit (.bool true)], args := [d] }
  | _ => none }
def codeBackRow : OpenClaim := { program := "ytmbopgmllnijjaa", sum := "c353d4f528e41a1dc97c03654b557e7460d07f2da3e05bdae24a4ea1b0d69a0e", func := "encore/encorelaw15.CodeBack", spec := "codeBack", inPlace := ["internal/bytealg.IndexByteString", "internal/bytealg.IndexString"], unfollowed := true, recurses := true, named := ["internal/bytealg.MaxLen"], loops := true, apart := false }
def CodeBackSaid : Prop := codeBackRow.holds Try.pinned (OpenSpec.ofChange codeBackSpec)

/-- ITS FALSE NEIGHBOUR: 'it returns false'. Refute it at one input. -/
def codeBackWrong : ChangeSpec := { name := "codeBack", fn := fun _ => fun
  | [d] => { results := [.lit (.bool false)], args := [d] }
  | _ => none }
def CodeBackWrongFalsely : Prop := codeBackRow.holds Try.pinned (OpenSpec.ofChange codeBackWrong)

/-- 'encorelaw15.CodeAgain': WHATEVER THE INPUT: true; the input reads as it did. -/
def codeAgainSpec : ChangeSpec := { name := "codeAgain", fn := fun _ => fun
  | [d] => { results := [.lit (.bool true)], args := [d] }
  | _ => none }
def codeAgainRow : OpenClaim := { program := "ytmbopgmllnijjaa", sum := "c353d4f528e41a1dc97c03654b557e7460d07f2da3e05bdae24a4ea1b0d69a0e", func := "encore/encorelaw15.CodeAgain", spec := "codeAgain", inPlace := ["internal/bytealg.IndexByteString", "internal/bytealg.IndexString"], unfollowed := true, recurses := true, named := ["internal/bytealg.MaxLen"], apart := false }
def CodeAgainSaid : Prop := codeAgainRow.holds Try.pinned (OpenSpec.ofChange codeAgainSpec)

/-- ITS FALSE NEIGHBOUR: 'it returns false'. Refute it at one input. -/
def codeAgainWrong : ChangeSpec := { name := "codeAgain", fn := fun _ => fun
  | [d] => { results := [.lit (.bool false)], args := [d] }
  | _ => none }
def CodeAgainWrongFalsely : Prop := codeAgainRow.holds Try.pinned (OpenSpec.ofChange codeAgainWrong)

/-- 'encorelaw15.CodeCut': WHATEVER THE INPUT: true; the input reads as it did. -/
def codeCutSpec : ChangeSpec := { name := "codeCut", fn := fun _ => fun
  | [d1, d2] => { results := [.lit (.bool true)], args := [d1, d2] }
  | _ => none }
def codeCutRow : OpenClaim := { program := "ytmbopgmllnijjaa", sum := "c353d4f528e41a1dc97c03654b557e7460d07f2da3e05bdae24a4ea1b0d69a0e", func := "encore/encorelaw15.CodeCut", spec := "codeCut", inPlace := ["internal/bytealg.IndexByteString", "internal/bytealg.IndexString"], unfollowed := true, recurses := true, named := ["internal/bytealg.MaxLen"], loops := true, apart := false }
def CodeCutSaid : Prop := codeCutRow.holds Try.pinned (OpenSpec.ofChange codeCutSpec)

/-- ITS FALSE NEIGHBOUR: 'it returns false'. Refute it at one input. -/
def codeCutWrong : ChangeSpec := { name := "codeCut", fn := fun _ => fun
  | [d1, d2] => { results := [.lit (.bool false)], args := [d1, d2] }
  | _ => none }
def CodeCutWrongFalsely : Prop := codeCutRow.holds Try.pinned (OpenSpec.ofChange codeCutWrong)

/-- 'encorelaw15.CodeMore': WHATEVER THE INPUT: true; the input reads as it did. -/
def codeMoreSpec : ChangeSpec := { name := "codeMore", fn := fun _ => fun
  | [d1, d2] => { results := [.lit (.bool true)], args := [d1, d2] }
  | _ => none }
def codeMoreRow : OpenClaim := { program := "ytmbopgmllnijjaa", sum := "c353d4f528e41a1dc97c03654b557e7460d07f2da3e05bdae24a4ea1b0d69a0e", func := "encore/encorelaw15.CodeMore", spec := "codeMore", inPlace := ["internal/bytealg.IndexByteString", "internal/bytealg.IndexString"], unfollowed := true, recurses := true, named := ["internal/bytealg.MaxLen"], loops := true, apart := false }
def CodeMoreSaid : Prop := codeMoreRow.holds Try.pinned (OpenSpec.ofChange codeMoreSpec)

/-- ITS FALSE NEIGHBOUR: 'it returns false'. Refute it at one input. -/
def codeMoreWrong : ChangeSpec := { name := "codeMore", fn := fun _ => fun
  | [d1, d2] => { results := [.lit (.bool false)], args := [d1, d2] }
  | _ => none }
def CodeMoreWrongFalsely : Prop := codeMoreRow.holds Try.pinned (OpenSpec.ofChange codeMoreWrong)

/-- 'encorelaw15.CodeMoves': WHATEVER THE INPUT: true; the input reads as it did. -/
def codeMovesSpec : ChangeSpec := { name := "codeMoves", fn := fun _ => fun
  | [d] => { results := [.lit (.bool true)], args := [d] }
  | _ => none }
def codeMovesRow : OpenClaim := { program := "ytmbopgmllnijjaa", sum := "c353d4f528e41a1dc97c03654b557e7460d07f2da3e05bdae24a4ea1b0d69a0e", func := "encore/encorelaw15.CodeMoves", spec := "codeMoves", inPlace := ["internal/bytealg.IndexByteString", "internal/bytealg.IndexString"], unfollowed := true, recurses := true, named := ["internal/bytealg.MaxLen"], loops := true, apart := false }
def CodeMovesSaid : Prop := codeMovesRow.holds Try.pinned (OpenSpec.ofChange codeMovesSpec)

/-- ITS FALSE NEIGHBOUR: 'it returns false'. Refute it at one input. -/
def codeMovesWrong : ChangeSpec := { name := "codeMoves", fn := fun _ => fun
  | [d] => { results := [.lit (.bool false)], args := [d] }
  | _ => none }
def CodeMovesWrongFalsely : Prop := codeMovesRow.holds Try.pinned (OpenSpec.ofChange codeMovesWrong)

/-- 'encorelaw15.CodeNames': WHATEVER THE INPUT: true; the input reads as it did. -/
def codeNamesSpec : ChangeSpec := { name := "codeNames", fn := fun _ => fun
  | [] => { results := [.lit (.bool true)], args := [] }
  | _ => none }
def codeNamesRow : OpenClaim := { program := "ytmbopgmllnijjaa", sum := "c353d4f528e41a1dc97c03654b557e7460d07f2da3e05bdae24a4ea1b0d69a0e", func := "encore/encorelaw15.CodeNames", spec := "codeNames", inPlace := ["internal/bytealg.IndexByteString", "internal/bytealg.IndexString"], unfollowed := true, recurses := true, named := ["internal/bytealg.MaxLen"], apart := false }
def CodeNamesSaid : Prop := codeNamesRow.holds Try.pinned (OpenSpec.ofChange codeNamesSpec)

/-- ITS FALSE NEIGHBOUR: 'it returns false'. Refute it at one input. -/
def codeNamesWrong : ChangeSpec := { name := "codeNames", fn := fun _ => fun
  | [] => { results := [.lit (.bool false)], args := [] }
  | _ => none }
def CodeNamesWrongFalsely : Prop := codeNamesRow.holds Try.pinned (OpenSpec.ofChange codeNamesWrong)

/- THE SECOND FORM. 'bulk': how many values and letters a reading holds, each counted each time it is reached (what is shared counts as often as it is met; a slice's spare places count too). A statement '..UptoSaid' is the law's where the arguments, and the package variables that the reading takes, are together of bulk at most 1048576: NARROWER than '..Said'. Prove '..Said' where nothing that the law and all that it calls make is longer than what came in: it says more and counts as full. Else prove '..UptoSaid'. A law counts once. -/
mutual
def uptoBulk {H : Type} : DataW H → Nat
  | .lit (.string bytes) => bytes.length + 1
  | .lit _ => 1
  | .nil => 1
  | .ptr d => uptoBulk d + 1
  | .slice elems spare => uptoBulkAll elems + uptoBulkAll spare + 1
  | .agg parts => uptoBulkAll parts + 1
  | .iface _ d => uptoBulk d + 1
  | .map entries => uptoBulkEntries entries + 1
  | .held _ => 1
def uptoBulkAll {H : Type} : List (DataW H) → Nat
  | [] => 0
  | d :: r => uptoBulk d + uptoBulkAll r
def uptoBulkEntries {H : Type} : List (Lit × DataW H) → Nat
  | [] => 0
  | x :: r => uptoBulkEntry x + uptoBulkEntries r
def uptoBulkEntry {H : Type} : Lit × DataW H → Nat
  | (.string bytes, d) => bytes.length + uptoBulk d + 1
  | (_, d) => uptoBulk d + 1
 end
def uptoSmall : (H : Type) → List (DataW H) → Bool := fun _ ds => decide (uptoBulkAll ds ≤ 1048576)
def OpenSpec.upto (s : _root_.Go.ChangeSpec) : _root_.Go.OpenSpec := { _root_.Go.OpenSpec.ofChange s with cond := some uptoSmall }

/-- 'encorelaw17.VerifySure', WHERE WHAT IT READS IS OF BULK AT MOST 1048576: true; the input reads as it did. -/
def verifySureUptoRow : OpenClaim := { program := "ytmbopgmllnijjaa", sum := "c353d4f528e41a1dc97c03654b557e7460d07f2da3e05bdae24a4ea1b0d69a0e", func := "encore/encorelaw17.VerifySure", spec := "verifySure", inPlace := ["internal/bytealg.IndexByteString", "internal/bytealg.IndexString"], unfollowed := true, recurses := true, named := ["internal/bytealg.MaxLen"], loops := true, apart := false, narrowed := true }
def VerifySureUptoSaid : Prop := verifySureUptoRow.holds Try.pinned (OpenSpec.upto verifySureSpec)

/-- 'encorelaw17.VerifyBounds', WHERE WHAT IT READS IS OF BULK AT MOST 1048576: true; the input reads as it did. -/
def verifyBoundsUptoRow : OpenClaim := { program := "ytmbopgmllnijjaa", sum := "c353d4f528e41a1dc97c03654b557e7460d07f2da3e05bdae24a4ea1b0d69a0e", func := "encore/encorelaw17.VerifyBounds", spec := "verifyBounds", inPlace := ["internal/bytealg.IndexByteString", "internal/bytealg.IndexString"], unfollowed := true, recurses := true, named := ["internal/bytealg.MaxLen"], loops := true, apart := false, narrowed := true }
def VerifyBoundsUptoSaid : Prop := verifyBoundsUptoRow.holds Try.pinned (OpenSpec.upto verifyBoundsSpec)

/-- 'encorelaw17.VerifyBehind', WHERE WHAT IT READS IS OF BULK AT MOST 1048576: true; the input reads as it did. -/
def verifyBehindUptoRow : OpenClaim := { program := "ytmbopgmllnijjaa", sum := "c353d4f528e41a1dc97c03654b557e7460d07f2da3e05bdae24a4ea1b0d69a0e", func := "encore/encorelaw17.VerifyBehind", spec := "verifyBehind", inPlace := ["internal/bytealg.IndexByteString", "internal/bytealg.IndexString"], unfollowed := true, recurses := true, named := ["internal/bytealg.MaxLen"], loops := true, apart := false, narrowed := true }
def VerifyBehindUptoSaid : Prop := verifyBehindUptoRow.holds Try.pinned (OpenSpec.upto verifyBehindSpec)

/-- 'encorelaw17.VerifyEach', WHERE WHAT IT READS IS OF BULK AT MOST 1048576: true; the input reads as it did. -/
def verifyEachUptoRow : OpenClaim := { program := "ytmbopgmllnijjaa", sum := "c353d4f528e41a1dc97c03654b557e7460d07f2da3e05bdae24a4ea1b0d69a0e", func := "encore/encorelaw17.VerifyEach", spec := "verifyEach", inPlace := ["internal/bytealg.IndexByteString", "internal/bytealg.IndexString"], unfollowed := true, recurses := true, named := ["internal/bytealg.MaxLen"], loops := true, apart := false, narrowed := true }
def VerifyEachUptoSaid : Prop := verifyEachUptoRow.holds Try.pinned (OpenSpec.upto verifyEachSpec)

/-- 'encorelaw17.VerifyNames', WHERE WHAT IT READS IS OF BULK AT MOST 1048576: true; the input reads as it did. -/
def verifyNamesUptoRow : OpenClaim := { program := "ytmbopgmllnijjaa", sum := "c353d4f528e41a1dc97c03654b557e7460d07f2da3e05bdae24a4ea1b0d69a0e", func := "encore/encorelaw17.VerifyNames", spec := "verifyNames", inPlace := ["internal/bytealg.IndexByteString", "internal/bytealg.IndexString"], unfollowed := true, recurses := true, named := ["internal/bytealg.MaxLen"], apart := false, narrowed := true }
def VerifyNamesUptoSaid : Prop := verifyNamesUptoRow.holds Try.pinned (OpenSpec.upto verifyNamesSpec)

/-- 'encorelaw15.CodeBack', WHERE WHAT IT READS IS OF BULK AT MOST 1048576: true; the input reads as it did. -/
def codeBackUptoRow : OpenClaim := { program := "ytmbopgmllnijjaa", sum := "c353d4f528e41a1dc97c03654b557e7460d07f2da3e05bdae24a4ea1b0d69a0e", func := "encore/encorelaw15.CodeBack", spec := "codeBack", inPlace := ["internal/bytealg.IndexByteString", "internal/bytealg.IndexString"], unfollowed := true, recurses := true, named := ["internal/bytealg.MaxLen"], loops := true, apart := false, narrowed := true }
def CodeBackUptoSaid : Prop := codeBackUptoRow.holds Try.pinned (OpenSpec.upto codeBackSpec)

/-- 'encorelaw15.CodeAgain', WHERE WHAT IT READS IS OF BULK AT MOST 1048576: true; the input reads as it did. -/
def codeAgainUptoRow : OpenClaim := { program := "ytmbopgmllnijjaa", sum := "c353d4f528e41a1dc97c03654b557e7460d07f2da3e05bdae24a4ea1b0d69a0e", func := "encore/encorelaw15.CodeAgain", spec := "codeAgain", inPlace := ["internal/bytealg.IndexByteString", "internal/bytealg.IndexString"], unfollowed := true, recurses := true, named := ["internal/bytealg.MaxLen"], apart := false, narrowed := true }
def CodeAgainUptoSaid : Prop := codeAgainUptoRow.holds Try.pinned (OpenSpec.upto codeAgainSpec)

/-- 'encorelaw15.CodeCut', WHERE WHAT IT READS IS OF BULK AT MOST 1048576: true; the input reads as it did. -/
def codeCutUptoRow : OpenClaim := { program := "ytmbopgmllnijjaa", sum := "c353d4f528e41a1dc97c03654b557e7460d07f2da3e05bdae24a4ea1b0d69a0e", func := "encore/encorelaw15.CodeCut", spec := "codeCut", inPlace := ["internal/bytealg.IndexByteString", "internal/bytealg.IndexString"], unfollowed := true, recurses := true, named := ["internal/bytealg.MaxLen"], loops := true, apart := false, narrowed := true }
def CodeCutUptoSaid : Prop := codeCutUptoRow.holds Try.pinned (OpenSpec.upto codeCutSpec)

/-- 'encorelaw15.CodeMore', WHERE WHAT IT READS IS OF BULK AT MOST 1048576: true; the input reads as it did. -/
def codeMoreUptoRow : OpenClaim := { program := "ytmbopgmllnijjaa", sum := "c353d4f528e41a1dc97c03654b557e7460d07f2da3e05bdae24a4ea1b0d69a0e", func := "encore/encorelaw15.CodeMore", spec := "codeMore", inPlace := ["internal/bytealg.IndexByteString", "internal/bytealg.IndexString"], unfollowed := true, recurses := true, named := ["internal/bytealg.MaxLen"], loops := true, apart := false, narrowed := true }
def CodeMoreUptoSaid : Prop := codeMoreUptoRow.holds Try.pinned (OpenSpec.upto codeMoreSpec)

/-- 'encorelaw15.CodeMoves', WHERE WHAT IT READS IS OF BULK AT MOST 1048576: true; the input reads as it did. -/
def codeMovesUptoRow : OpenClaim := { program := "ytmbopgmllnijjaa", sum := "c353d4f528e41a1dc97c03654b557e7460d07f2da3e05bdae24a4ea1b0d69a0e", func := "encore/encorelaw15.CodeMoves", spec := "codeMoves", inPlace := ["internal/bytealg.IndexByteString", "internal/bytealg.IndexString"], unfollowed := true, recurses := true, named := ["internal/bytealg.MaxLen"], loops := true, apart := false, narrowed := true }
def CodeMovesUptoSaid : Prop := codeMovesUptoRow.holds Try.pinned (OpenSpec.upto codeMovesSpec)

/-- 'encorelaw15.CodeNames', WHERE WHAT IT READS IS OF BULK AT MOST 1048576: true; the input reads as it did. -/
def codeNamesUptoRow : OpenClaim := { program := "ytmbopgmllnijjaa", sum := "c353d4f528e41a1dc97c03654b557e7460d07f2da3e05bdae24a4ea1b0d69a0e", func := "encore/encorelaw15.CodeNames", spec := "codeNames", inPlace := ["internal/bytealg.IndexByteString", "internal/bytealg.IndexString"], unfollowed := true, recurses := true, named := ["internal/bytealg.MaxLen"], apart := false, narrowed := true }
def CodeNamesUptoSaid : Prop := codeNamesUptoRow.holds Try.pinned (OpenSpec.upto codeNamesSpec)

end Rows
end Go.Proofs.Ytmbopgmllnijjaa
