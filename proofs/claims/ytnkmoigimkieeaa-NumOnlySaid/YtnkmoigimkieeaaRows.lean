/-
  No cell of these rows narrows 'for every input' (looked for: loops, veiled, ifaces, maps, wideKeys, modest, calm, conditions, laid).
  DERIVED. THE GIVEN ROWS OF THIS SEAT. 10 by the template 'for every input the law returns true; each argument reads behind the call as it read before'; 0 by the template 'total and deterministic' (their statements: YtnkmoigimkieeaaTotals.lean).
  GIVEN WITH THE SEED: the statements are not yours to turn. If you find one false, say at which input.
  Laid BY PROGRAM, IN A SANDBOX (cutbox-rows.mjs): the forced cells as the released guide's own fill.sh prints them over the translation 1e93c1fc667e5f22… (all of the seat's roots in one cut). By AI agents, Wed Nov 11 2026. No macro, syntax, notation, axiom, sorry.
-/
import Derived.Test.YtnkmoigimkieeaaChecked
import GoSem.Claim
import GoSem.ClaimJoined
import GoSem.ClaimMapViews
import Derived.JoinedTies
import Derived.KernelRfl
namespace Go.Proofs.Ytnkmoigimkieeaa
/- THE CELL 'sum', in the pinned program and in every row, IS THE sha256 OF THE DUMP (.gsa) THAT YtnkmoigimkieeaaProg.lean LOADS. Nothing in Lean hashes anything: it is a label: what it is worth is what the hold of that sum in a sandbox is worth. -/
noncomputable def Try.pinned : Pinned := { name := "ytnkmoigimkieeaa", sum := "1e93c1fc667e5f229eb0c622c3e734a854c55d4023470bc239b28500867dde49", checked := Try.checked }
namespace Rows
def none {H : Type} : Left H := { results := [], args := [] }

/-- 'veneerlaw01.NumRises': WHATEVER THE INPUT: true; the input reads as it did. -/
def numRisesSpec : ChangeSpec := { name := "numRises", fn := fun _ => fun
  | [d1, d2] => { results := [.lit (.bool true)], args := [d1, d2] }
  | _ => none }
def numRisesRow : OpenClaim := { program := "ytnkmoigimkieeaa", sum := "1e93c1fc667e5f229eb0c622c3e734a854c55d4023470bc239b28500867dde49", func := "veneer/veneerlaw01.NumRises", spec := "numRises", apart := false }
def NumRisesSaid : Prop := numRisesRow.holds Try.pinned (OpenSpec.ofChange numRisesSpec)

/-- ITS FALSE NEIGHBOUR: 'it returns false'. Refute it at one input. -/
def numRisesWrong : ChangeSpec := { name := "numRises", fn := fun _ => fun
  | [d1, d2] => { results := [.lit (.bool false)], args := [d1, d2] }
  | _ => none }
def NumRisesWrongFalsely : Prop := numRisesRow.holds Try.pinned (OpenSpec.ofChange numRisesWrong)

/-- 'veneerlaw01.NumZigs': WHATEVER THE INPUT: true; the input reads as it did. -/
def numZigsSpec : ChangeSpec := { name := "numZigs", fn := fun _ => fun
  | [d1, d2] => { results := [.lit (.bool true)], args := [d1, d2] }
  | _ => none }
def numZigsRow : OpenClaim := { program := "ytnkmoigimkieeaa", sum := "1e93c1fc667e5f229eb0c622c3e734a854c55d4023470bc239b28500867dde49", func := "veneer/veneerlaw01.NumZigs", spec := "numZigs", apart := false }
def NumZigsSaid : Prop := numZigsRow.holds Try.pinned (OpenSpec.ofChange numZigsSpec)

/-- ITS FALSE NEIGHBOUR: 'it returns false'. Refute it at one input. -/
def numZigsWrong : ChangeSpec := { name := "numZigs", fn := fun _ => fun
  | [d1, d2] => { results := [.lit (.bool false)], args := [d1, d2] }
  | _ => none }
def NumZigsWrongFalsely : Prop := numZigsRow.holds Try.pinned (OpenSpec.ofChange numZigsWrong)

/-- 'veneerlaw01.NumZag': WHATEVER THE INPUT: true; the input reads as it did. -/
def numZagSpec : ChangeSpec := { name := "numZag", fn := fun _ => fun
  | [d1, d2] => { results := [.lit (.bool true)], args := [d1, d2] }
  | _ => none }
def numZagRow : OpenClaim := { program := "ytnkmoigimkieeaa", sum := "1e93c1fc667e5f229eb0c622c3e734a854c55d4023470bc239b28500867dde49", func := "veneer/veneerlaw01.NumZag", spec := "numZag", apart := false }
def NumZagSaid : Prop := numZagRow.holds Try.pinned (OpenSpec.ofChange numZagSpec)

/-- ITS FALSE NEIGHBOUR: 'it returns false'. Refute it at one input. -/
def numZagWrong : ChangeSpec := { name := "numZag", fn := fun _ => fun
  | [d1, d2] => { results := [.lit (.bool false)], args := [d1, d2] }
  | _ => none }
def NumZagWrongFalsely : Prop := numZagRow.holds Try.pinned (OpenSpec.ofChange numZagWrong)

/-- 'veneerlaw01.NumVars': WHATEVER THE INPUT: true; the input reads as it did. -/
def numVarsSpec : ChangeSpec := { name := "numVars", fn := fun _ => fun
  | [d1, d2] => { results := [.lit (.bool true)], args := [d1, d2] }
  | _ => none }
def numVarsRow : OpenClaim := { program := "ytnkmoigimkieeaa", sum := "1e93c1fc667e5f229eb0c622c3e734a854c55d4023470bc239b28500867dde49", func := "veneer/veneerlaw01.NumVars", spec := "numVars", apart := false }
def NumVarsSaid : Prop := numVarsRow.holds Try.pinned (OpenSpec.ofChange numVarsSpec)

/-- ITS FALSE NEIGHBOUR: 'it returns false'. Refute it at one input. -/
def numVarsWrong : ChangeSpec := { name := "numVars", fn := fun _ => fun
  | [d1, d2] => { results := [.lit (.bool false)], args := [d1, d2] }
  | _ => none }
def NumVarsWrongFalsely : Prop := numVarsRow.holds Try.pinned (OpenSpec.ofChange numVarsWrong)

/-- 'veneerlaw01.NumVarBack': WHATEVER THE INPUT: true; the input reads as it did. -/
def numVarBackSpec : ChangeSpec := { name := "numVarBack", fn := fun _ => fun
  | [d1, d2] => { results := [.lit (.bool true)], args := [d1, d2] }
  | _ => none }
def numVarBackRow : OpenClaim := { program := "ytnkmoigimkieeaa", sum := "1e93c1fc667e5f229eb0c622c3e734a854c55d4023470bc239b28500867dde49", func := "veneer/veneerlaw01.NumVarBack", spec := "numVarBack", apart := false }
def NumVarBackSaid : Prop := numVarBackRow.holds Try.pinned (OpenSpec.ofChange numVarBackSpec)

/-- ITS FALSE NEIGHBOUR: 'it returns false'. Refute it at one input. -/
def numVarBackWrong : ChangeSpec := { name := "numVarBack", fn := fun _ => fun
  | [d1, d2] => { results := [.lit (.bool false)], args := [d1, d2] }
  | _ => none }
def NumVarBackWrongFalsely : Prop := numVarBackRow.holds Try.pinned (OpenSpec.ofChange numVarBackWrong)

/-- 'veneerlaw01.NumOnly': WHATEVER THE INPUT: true; the input reads as it did. -/
def numOnlySpec : ChangeSpec := { name := "numOnly", fn := fun _ => fun
  | [d] => { results := [.lit (.bool true)], args := [d] }
  | _ => none }
def numOnlyRow : OpenClaim := { program := "ytnkmoigimkieeaa", sum := "1e93c1fc667e5f229eb0c622c3e734a854c55d4023470bc239b28500867dde49", func := "veneer/veneerlaw01.NumOnly", spec := "numOnly", apart := false }
def NumOnlySaid : Prop := numOnlyRow.holds Try.pinned (OpenSpec.ofChange numOnlySpec)

/-- ITS FALSE NEIGHBOUR: 'it returns false'. Refute it at one input. -/
def numOnlyWrong : ChangeSpec := { name := "numOnly", fn := fun _ => fun
  | [d] => { results := [.lit (.bool false)], args := [d] }
  | _ => none }
def NumOnlyWrongFalsely : Prop := numOnlyRow.holds Try.pinned (OpenSpec.ofChange numOnlyWrong)

/-- 'veneerlaw01.NumFixed': WHATEVER THE INPUT: true; the input reads as it did. -/
def numFixedSpec : ChangeSpec := { name := "numFixed", fn := fun _ => fun
  | [d1, d2, d3] => { results := [.lit (.bool true)], args := [d1, d2, d3] }
  | _ => none }
def numFixedRow : OpenClaim := { program := "ytnkmoigimkieeaa", sum := "1e93c1fc667e5f229eb0c622c3e734a854c55d4023470bc239b28500867dde49", func := "veneer/veneerlaw01.NumFixed", spec := "numFixed", apart := false }
def NumFixedSaid : Prop := numFixedRow.holds Try.pinned (OpenSpec.ofChange numFixedSpec)

/-- ITS FALSE NEIGHBOUR: 'it returns false'. Refute it at one input. -/
def numFixedWrong : ChangeSpec := { name := "numFixed", fn := fun _ => fun
  | [d1, d2, d3] => { results := [.lit (.bool false)], args := [d1, d2, d3] }
  | _ => none }
def NumFixedWrongFalsely : Prop := numFixedRow.holds Try.pinned (OpenSpec.ofChange numFixedWrong)

/-- 'veneerlaw01.NumBack': WHATEVER THE INPUT: true; the input reads as it did. -/
def numBackSpec : ChangeSpec := { name := "numBack", fn := fun _ => fun
  | [d1, d2, d3] => { results := [.lit (.bool true)], args := [d1, d2, d3] }
  | _ => none }
def numBackRow : OpenClaim := { program := "ytnkmoigimkieeaa", sum := "1e93c1fc667e5f229eb0c622c3e734a854c55d4023470bc239b28500867dde49", func := "veneer/veneerlaw01.NumBack", spec := "numBack", apart := false }
def NumBackSaid : Prop := numBackRow.holds Try.pinned (OpenSpec.ofChange numBackSpec)

/-- ITS FALSE NEIGHBOUR: 'it returns false'. Refute it at one input. -/
def numBackWrong : ChangeSpec := { name := "numBack", fn := fun _ => fun
  | [d1, d2, d3] => { results := [.lit (.bool false)], args := [d1, d2, d3] }
  | _ => none }
def NumBackWrongFalsely : Prop := numBackRow.holds Try.pinned (OpenSpec.ofChange numBackWrong)

/-- 'veneerlaw01.NumSums': WHATEVER THE INPUT: true; the input reads as it did. -/
def numSumsSpec : ChangeSpec := { name := "numSums", fn := fun _ => fun
  | [d1, d2] => { results := [.lit (.bool true)], args := [d1, d2] }
  | _ => none }
def numSumsRow : OpenClaim := { program := "ytnkmoigimkieeaa", sum := "1e93c1fc667e5f229eb0c622c3e734a854c55d4023470bc239b28500867dde49", func := "veneer/veneerlaw01.NumSums", spec := "numSums", apart := false }
def NumSumsSaid : Prop := numSumsRow.holds Try.pinned (OpenSpec.ofChange numSumsSpec)

/-- ITS FALSE NEIGHBOUR: 'it returns false'. Refute it at one input. -/
def numSumsWrong : ChangeSpec := { name := "numSums", fn := fun _ => fun
  | [d1, d2] => { results := [.lit (.bool false)], args := [d1, d2] }
  | _ => none }
def NumSumsWrongFalsely : Prop := numSumsRow.holds Try.pinned (OpenSpec.ofChange numSumsWrong)

/-- 'veneerlaw01.NumTurns': WHATEVER THE INPUT: true; the input reads as it did. -/
def numTurnsSpec : ChangeSpec := { name := "numTurns", fn := fun _ => fun
  | [d1, d2] => { results := [.lit (.bool true)], args := [d1, d2] }
  | _ => none }
def numTurnsRow : OpenClaim := { program := "ytnkmoigimkieeaa", sum := "1e93c1fc667e5f229eb0c622c3e734a854c55d4023470bc239b28500867dde49", func := "veneer/veneerlaw01.NumTurns", spec := "numTurns", apart := false }
def NumTurnsSaid : Prop := numTurnsRow.holds Try.pinned (OpenSpec.ofChange numTurnsSpec)

/-- ITS FALSE NEIGHBOUR: 'it returns false'. Refute it at one input. -/
def numTurnsWrong : ChangeSpec := { name := "numTurns", fn := fun _ => fun
  | [d1, d2] => { results := [.lit (.bool false)], args := [d1, d2] }
  | _ => none }
def NumTurnsWrongFalsely : Prop := numTurnsRow.holds Try.pinned (OpenSpec.ofChange numTurnsWrong)

/- THE SECOND FORM. 'bulk': how many values and letters a reading holds, each counted each time it is reached (what is shared counts as often as it is met; a slice's spare places count too). A statement '..UptoSaid' is the law's where the arguments, and the package variables that the reading takes, are together of bulk at most 1048576: NARROWER than '..Said'. Prove '..Said' where nothing that the law and all that it calls make is longer than what came in: it says more and counts as full. Else prove '..UptoSaid'. A law counts once. -/
mutual
def uptoBulk {H : Type} : DataW H → Nat
  | .lit (.string bytes) => bytes.length + 1
  | .lit _ => 1
  | .nil => 1
  | .ptr d => uptoBulk d + 1
  | .slice elems spare => uptoBulkAll elems + uptoBulkAll spare + 1
  | .agg parts => uptoBulkAll parts + 1
  | .iface _ d => uptoBulk d + 1
  | .map entries => uptoBulkEntries entries + 1
  | .held _ => 1
def uptoBulkAll {H : Type} : List (DataW H) → Nat
  | [] => 0
  | d :: r => uptoBulk d + uptoBulkAll r
def uptoBulkEntries {H : Type} : List (Lit × DataW H) → Nat
  | [] => 0
  | x :: r => uptoBulkEntry x + uptoBulkEntries r
def uptoBulkEntry {H : Type} : Lit × DataW H → Nat
  | (.string bytes, d) => bytes.length + uptoBulk d + 1
  | (_, d) => uptoBulk d + 1
 end
def uptoSmall : (H : Type) → List (DataW H) → Bool := fun _ ds => decide (uptoBulkAll ds ≤ 1048576)
def OpenSpec.upto (s : _root_.Go.ChangeSpec) : _root_.Go.OpenSpec := { _root_.Go.OpenSpec.ofChange s with cond := some uptoSmall }

/-- 'veneerlaw01.NumRises', WHERE WHAT IT READS IS OF BULK AT MOST 1048576: true; the input reads as it did. -/
def numRisesUptoRow : OpenClaim := { program := "ytnkmoigimkieeaa", sum := "1e93c1fc667e5f229eb0c622c3e734a854c55d4023470bc239b28500867dde49", func := "veneer/veneerlaw01.NumRises", spec := "numRises", apart := false, narrowed := true }
def NumRisesUptoSaid : Prop := numRisesUptoRow.holds Try.pinned (OpenSpec.upto numRisesSpec)

/-- 'veneerlaw01.NumZigs', WHERE WHAT IT READS IS OF BULK AT MOST 1048576: true; the input reads as it did. -/
def numZigsUptoRow : OpenClaim := { program := "ytnkmoigimkieeaa", sum := "1e93c1fc667e5f229eb0c622c3e734a854c55d4023470bc239b28500867dde49", func := "veneer/veneerlaw01.NumZigs", spec := "numZigs", apart := false, narrowed := true }
def NumZigsUptoSaid : Prop := numZigsUptoRow.holds Try.pinned (OpenSpec.upto numZigsSpec)

/-- 'veneerlaw01.NumZag', WHERE WHAT IT READS IS OF BULK AT MOST 1048576: true; the input reads as it did. -/
def numZagUptoRow : OpenClaim := { program := "ytnkmoigimkieeaa", sum := "1e93c1fc667e5f229eb0c622c3e734a854c55d4023470bc239b28500867dde49", func := "veneer/veneerlaw01.NumZag", spec := "numZag", apart := false, narrowed := true }
def NumZagUptoSaid : Prop := numZagUptoRow.holds Try.pinned (OpenSpec.upto numZagSpec)

/-- 'veneerlaw01.NumVars', WHERE WHAT IT READS IS OF BULK AT MOST 1048576: true; the input reads as it did. -/
def numVarsUptoRow : OpenClaim := { program := "ytnkmoigimkieeaa", sum := "1e93c1fc667e5f229eb0c622c3e734a854c55d4023470bc239b28500867dde49", func := "veneer/veneerlaw01.NumVars", spec := "numVars", apart := false, narrowed := true }
def NumVarsUptoSaid : Prop := numVarsUptoRow.holds Try.pinned (OpenSpec.upto numVarsSpec)

/-- 'veneerlaw01.NumVarBack', WHERE WHAT IT READS IS OF BULK AT MOST 1048576: true; the input reads as it did. -/
def numVarBackUptoRow : OpenClaim := { program := "ytnkmoigimkieeaa", sum := "1e93c1fc667e5f229eb0c622c3e734a854c55d4023470bc239b28500867dde49", func := "veneer/veneerlaw01.NumVarBack", spec := "numVarBack", apart := false, narrowed := true }
def NumVarBackUptoSaid : Prop := numVarBackUptoRow.holds Try.pinned (OpenSpec.upto numVarBackSpec)

/-- 'veneerlaw01.NumOnly', WHERE WHAT IT READS IS OF BULK AT MOST 1048576: true; the input reads as it did. -/
def numOnlyUptoRow : OpenClaim := { program := "ytnkmoigimkieeaa", sum := "1e93c1fc667e5f229eb0c622c3e734a854c55d4023470bc239b28500867dde49", func := "veneer/veneerlaw01.NumOnly", spec := "numOnly", apart := false, narrowed := true }
def NumOnlyUptoSaid : Prop := numOnlyUptoRow.holds Try.pinned (OpenSpec.upto numOnlySpec)

/-- 'veneerlaw01.NumFixed', WHERE WHAT IT READS IS OF BULK AT MOST 1048576: true; the input reads as it did. -/
def numFixedUptoRow : OpenClaim := { program := "ytnkmoigimkieeaa", sum := "1e93c1fc667e5f229eb0c622c3e734a854c55d4023470bc239b28500867dde49", func := "veneer/veneerlaw01.NumFixed", spec := "numFixed", apart := false, narrowed := true }
def NumFixedUptoSaid : Prop := numFixedUptoRow.holds Try.pinned (OpenSpec.upto numFixedSpec)

/-- 'veneerlaw01.NumBack', WHERE WHAT IT READS IS OF BULK AT MOST 1048576: true; the input reads as it did. -/
def numBackUptoRow : OpenClaim := { program := "ytnkmoigimkieeaa", sum := "1e93c1fc667e5f229eb0c622c3e734a854c55d4023470bc239b28500867dde49", func := "veneer/veneerlaw01.NumBack", spec := "numBack", apart := false, narrowed := true }
def NumBackUptoSaid : Prop := numBackUptoRow.holds Try.pinned (OpenSpec.upto numBackSpec)

/-- 'veneerlaw01.NumSums', WHERE WHAT IT READS IS OF BULK AT MOST 1048576: true; the input reads as it did. -/
def numSumsUptoRow : OpenClaim := { program := "ytnkmoigimkieeaa", sum := "1e93c1fc667e5f229eb0c622c3e734a854c55d4023470bc239b28500867dde49", func := "veneer/veneerlaw01.NumSums", spec := "numSums", apart := false, narrowed := true }
def NumSumsUptoSaid : Prop := numSumsUptoRow.holds Try.pinned (OpenSpec.upto numSumsSpec)

/-- 'veneerlaw01.NumTurns', WHERE WHAT IT READS IS OF BULK AT MOST 1048576: true; the input reads as it did. -/
def numTurnsUptoRow : OpenClaim := { program := "ytnkmoigimkieeaa", sum := "1e93c1fc667e5f229eb0c622c3e734a854c55d4023470bc239b28500867dde49", func := "veneer/veneerlaw01.NumTurns", spec := "numTurns", apart := false, narrowed := true }
def NumTurnsUptoSaid : Prop := numTurnsUptoRow.holds Try.pinned (OpenSpec.upto numTurnsSpec)

end Rows
end Go.Proofs.Ytnkmoigimkieeaa
