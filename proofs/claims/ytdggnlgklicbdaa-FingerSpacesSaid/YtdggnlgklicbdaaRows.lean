/-
  No cell of these rows narrows 'for every input' (looked for: loops, veiled, ifaces, maps, wideKeys, modest, calm, conditions, laid).
  DERIVED. THE GIVEN ROWS OF THIS SEAT. 6 by the template 'for every input the law returns true; each argument reads behind the call as it read before'; 0 by the template 'total and deterministic' (their statements: YtdggnlgklicbdaaTotals.lean).
  GIVEN WITH THE SEED: the statements are not yours to turn. If you find one false, say at which input.
  Laid BY PROGRAM, IN A SANDBOX (cutbox-rows.mjs): the forced cells as the released guide's own fill.sh prints them over the translation 9bcdd39b584d6e56… (all of the seat's roots in one cut). By AI agents, Wed Nov 11 2026. No macro, syntax, notation, axiom, sorry.
-/
import Derived.Test.YtdggnlgklicbdaaChecked
import GoSem.Claim
import GoSem.ClaimJoined
import GoSem.ClaimMapViews
import Derived.JoinedTies
import Derived.KernelRfl
namespace Go.Proofs.Ytdggnlgklicbdaa
/- THE CELL 'sum', in the pinned program and in every row, IS THE sha256 OF THE DUMP (.gsa) THAT YtdggnlgklicbdaaProg.lean LOADS. Nothing in Lean hashes anything: it is a label: what it is worth is what the hold of that sum in a sandbox is worth. -/
noncomputable def Try.pinned : Pinned := { name := "ytdggnlgklicbdaa", sum := "9bcdd39b584d6e56ae0e94d9d1d028301bc9e9a80532df944d095411b307f4c8", checked := Try.checked }
namespace Rows
def none {H : Type} : Left H := { results := [], args := [] }

/-- 'warrantorlaw20.FingerOf': WHATEVER THE INPUT: true; the input reads as it did. -/
def fingerOfSpec : ChangeSpec := { name := "fingerOf", fn := fun _ => fun
  | [d1, d2, d3] => { results := [.lit (.bool true)], args := [d1, d2, d3] }
  | _ => none }
def fingerOfRow : OpenClaim := { program := "ytdggnlgklicbdaa", sum := "9bcdd39b584d6e56ae0e94d9d1d028301bc9e9a80532df944d095411b307f4c8", func := "warrantor/warrantorlaw20.FingerOf", spec := "fingerOf", inPlace := ["internal/abi.NoEscape"], unfollowed := true, recurses := true, apart := false }
def FingerOfSaid : Prop := fingerOfRow.holds Try.pinned (OpenSpec.ofChange fingerOfSpec)

/-- ITS FALSE NEIGHBOUR: 'it returns false'. Refute it at one input. -/
def fingerOfWrong : ChangeSpec := { name := "fingerOf", fn := fun _ => fun
  | [d1, d2, d3] => { results := [.lit (.bool false)], args := [d1, d2, d3] }
  | _ => none }
def FingerOfWrongFalsely : Prop := fingerOfRow.holds Try.pinned (OpenSpec.ofChange fingerOfWrong)

/-- 'warrantorlaw20.FingerMoves': WHATEVER THE INPUT: true; the input reads as it did. -/
def fingerMovesSpec : ChangeSpec := { name := "fingerMoves", fn := fun _ => fun
  | [d1, d2, d3, d4] => { results := [.lit (.bool true)], args := [d1, d2, d3, d4] }
  | _ => none }
def fingerMovesRow : OpenClaim := { program := "ytdggnlgklicbdaa", sum := "9bcdd39b584d6e56ae0e94d9d1d028301bc9e9a80532df944d095411b307f4c8", func := "warrantor/warrantorlaw20.FingerMoves", spec := "fingerMoves", inPlace := ["internal/abi.NoEscape"], unfollowed := true, recurses := true, apart := false }
def FingerMovesSaid : Prop := fingerMovesRow.holds Try.pinned (OpenSpec.ofChange fingerMovesSpec)

/-- ITS FALSE NEIGHBOUR: 'it returns false'. Refute it at one input. -/
def fingerMovesWrong : ChangeSpec := { name := "fingerMoves", fn := fun _ => fun
  | [d1, d2, d3, d4] => { results := [.lit (.bool false)], args := [d1, d2, d3, d4] }
  | _ => none }
def FingerMovesWrongFalsely : Prop := fingerMovesRow.holds Try.pinned (OpenSpec.ofChange fingerMovesWrong)

/-- 'warrantorlaw20.FingerTurns': WHATEVER THE INPUT: true; the input reads as it did. -/
def fingerTurnsSpec : ChangeSpec := { name := "fingerTurns", fn := fun _ => fun
  | [d1, d2] => { results := [.lit (.bool true)], args := [d1, d2] }
  | _ => none }
def fingerTurnsRow : OpenClaim := { program := "ytdggnlgklicbdaa", sum := "9bcdd39b584d6e56ae0e94d9d1d028301bc9e9a80532df944d095411b307f4c8", func := "warrantor/warrantorlaw20.FingerTurns", spec := "fingerTurns", inPlace := ["internal/abi.NoEscape"], unfollowed := true, recurses := true, apart := false }
def FingerTurnsSaid : Prop := fingerTurnsRow.holds Try.pinned (OpenSpec.ofChange fingerTurnsSpec)

/-- ITS FALSE NEIGHBOUR: 'it returns false'. Refute it at one input. -/
def fingerTurnsWrong : ChangeSpec := { name := "fingerTurns", fn := fun _ => fun
  | [d1, d2] => { results := [.lit (.bool false)], args := [d1, d2] }
  | _ => none }
def FingerTurnsWrongFalsely : Prop := fingerTurnsRow.holds Try.pinned (OpenSpec.ofChange fingerTurnsWrong)

/-- 'warrantorlaw20.FingerSpaces': WHATEVER THE INPUT: true; the input reads as it did. -/
def fingerSpacesSpec : ChangeSpec := { name := "fingerSpaces", fn := fun _ => fun
  | [d] => { results := [.lit (.bool true)], args := [d] }
  | _ => none }
def fingerSpacesRow : OpenClaim := { program := "ytdggnlgklicbdaa", sum := "9bcdd39b584d6e56ae0e94d9d1d028301bc9e9a80532df944d095411b307f4c8", func := "warrantor/warrantorlaw20.FingerSpaces", spec := "fingerSpaces", inPlace := ["internal/abi.NoEscape"], unfollowed := true, recurses := true, apart := false }
def FingerSpacesSaid : Prop := fingerSpacesRow.holds Try.pinned (OpenSpec.ofChange fingerSpacesSpec)

/-- ITS FALSE NEIGHBOUR: 'it returns false'. Refute it at one input. -/
def fingerSpacesWrong : ChangeSpec := { name := "fingerSpaces", fn := fun _ => fun
  | [d] => { results := [.lit (.bool false)], args := [d] }
  | _ => none }
def FingerSpacesWrongFalsely : Prop := fingerSpacesRow.holds Try.pinned (OpenSpec.ofChange fingerSpacesWrong)

/-- 'warrantorlaw25.BaseSums': WHATEVER THE INPUT: true; the input reads as it did. -/
def baseSumsSpec : ChangeSpec := { name := "baseSums", fn := fun _ => fun
  | [d1, d2, d3] => { results := [.lit (.bool true)], args := [d1, d2, d3] }
  | _ => none }
def baseSumsRow : OpenClaim := { program := "ytdggnlgklicbdaa", sum := "9bcdd39b584d6e56ae0e94d9d1d028301bc9e9a80532df944d095411b307f4c8", func := "warrantor/warrantorlaw25.BaseSums", spec := "baseSums", inPlace := ["internal/abi.NoEscape"], unfollowed := true, recurses := true, apart := false }
def BaseSumsSaid : Prop := baseSumsRow.holds Try.pinned (OpenSpec.ofChange baseSumsSpec)

/-- ITS FALSE NEIGHBOUR: 'it returns false'. Refute it at one input. -/
def baseSumsWrong : ChangeSpec := { name := "baseSums", fn := fun _ => fun
  | [d1, d2, d3] => { results := [.lit (.bool false)], args := [d1, d2, d3] }
  | _ => none }
def BaseSumsWrongFalsely : Prop := baseSumsRow.holds Try.pinned (OpenSpec.ofChange baseSumsWrong)

/-- 'warrantorlaw25.BaseMany': WHATEVER THE INPUT: true; the input reads as it did. -/
def baseManySpec : ChangeSpec := { name := "baseMany", fn := fun _ => fun
  | [d1, d2, d3] => { results := [.lit (.bool true)], args := [d1, d2, d3] }
  | _ => none }
def baseManyRow : OpenClaim := { program := "ytdggnlgklicbdaa", sum := "9bcdd39b584d6e56ae0e94d9d1d028301bc9e9a80532df944d095411b307f4c8", func := "warrantor/warrantorlaw25.BaseMany", spec := "baseMany", inPlace := ["internal/abi.NoEscape"], unfollowed := true, recurses := true, apart := false }
def BaseManySaid : Prop := baseManyRow.holds Try.pinned (OpenSpec.ofChange baseManySpec)

/-- ITS FALSE NEIGHBOUR: 'it returns false'. Refute it at one input. -/
def baseManyWrong : ChangeSpec := { name := "baseMany", fn := fun _ => fun
  | [d1, d2, d3] => { results := [.lit (.bool false)], args := [d1, d2, d3] }
  | _ => none }
def BaseManyWrongFalsely : Prop := baseManyRow.holds Try.pinned (OpenSpec.ofChange baseManyWrong)

/- THE SECOND FORM. 'bulk': how many values and letters a reading holds, each counted each time it is reached (what is shared counts as often as it is met; a slice's spare places count too). A statement '..UptoSaid' is the law's where the arguments, and the package variables that the reading takes, are together of bulk at most 1048576: NARROWER than '..Said'. Prove '..Said' where nothing that the law and all that it calls make is longer than what came in: it says more and counts as full. Else prove '..UptoSaid'. A law counts once. -/
mutual
def uptoBulk {H : Type} : DataW H → Nat
  | .lit (.string bytes) => bytes.length + 1
  | .lit _ => 1
  | .nil => 1
  | .ptr d => uptoBulk d + 1
  | .slice elems spare => uptoBulkAll elems + uptoBulkAll spare + 1
  | .agg parts => uptoBulkAll parts + 1
  | .iface _ d => uptoBulk d + 1
  | .map entries => uptoBulkEntries entries + 1
  | .held _ => 1
def uptoBulkAll {H : Type} : List (DataW H) → Nat
  | [] => 0
  | d :: r => uptoBulk d + uptoBulkAll r
def uptoBulkEntries {H : Type} : List (Lit × DataW H) → Nat
  | [] => 0
  | x :: r => uptoBulkEntry x + uptoBulkEntries r
def uptoBulkEntry {H : Type} : Lit × DataW H → Nat
  | (.string bytes, d) => bytes.length + uptoBulk d + 1
  | (_, d) => uptoBulk d + 1
 end
def uptoSmall : (H : Type) → List (DataW H) → Bool := fun _ ds => decide (uptoBulkAll ds ≤ 1048576)
def OpenSpec.upto (s : _root_.Go.ChangeSpec) : _root_.Go.OpenSpec := { _root_.Go.OpenSpec.ofChange s with cond := some uptoSmall }

/-- 'warrantorlaw20.FingerOf', WHERE WHAT IT READS IS OF BULK AT MOST 1048576: true; the input reads as it did. -/
def fingerOfUptoRow : OpenClaim := { program := "ytdggnlgklicbdaa", sum := "9bcdd39b584d6e56ae0e94d9d1d028301bc9e9a80532df944d095411b307f4c8", func := "warrantor/warrantorlaw20.FingerOf", spec := "fingerOf", inPlace := ["internal/abi.NoEscape"], unfollowed := true, recurses := true, apart := false, narrowed := true }
def FingerOfUptoSaid : Prop := fingerOfUptoRow.holds Try.pinned (OpenSpec.upto fingerOfSpec)

/-- 'warrantorlaw20.FingerMoves', WHERE WHAT IT READS IS OF BULK AT MOST 1048576: true; the input reads as it did. -/
def fingerMovesUptoRow : OpenClaim := { program := "ytdggnlgklicbdaa", sum := "9bcdd39b584d6e56ae0e94d9d1d028301bc9e9a80532df944d095411b307f4c8", func := "warrantor/warrantorlaw20.FingerMoves", spec := "fingerMoves", inPlace := ["internal/abi.NoEscape"], unfollowed := true, recurses := true, apart := false, narrowed := true }
def FingerMovesUptoSaid : Prop := fingerMovesUptoRow.holds Try.pinned (OpenSpec.upto fingerMovesSpec)

/-- 'warrantorlaw20.FingerTurns', WHERE WHAT IT READS IS OF BULK AT MOST 1048576: true; the input reads as it did. -/
def fingerTurnsUptoRow : OpenClaim := { program := "ytdggnlgklicbdaa", sum := "9bcdd39b584d6e56ae0e94d9d1d028301bc9e9a80532df944d095411b307f4c8", func := "warrantor/warrantorlaw20.FingerTurns", spec := "fingerTurns", inPlace := ["internal/abi.NoEscape"], unfollowed := true, recurses := true, apart := false, narrowed := true }
def FingerTurnsUptoSaid : Prop := fingerTurnsUptoRow.holds Try.pinned (OpenSpec.upto fingerTurnsSpec)

/-- 'warrantorlaw20.FingerSpaces', WHERE WHAT IT READS IS OF BULK AT MOST 1048576: true; the input reads as it did. -/
def fingerSpacesUptoRow : OpenClaim := { program := "ytdggnlgklicbdaa", sum := "9bcdd39b584d6e56ae0e94d9d1d028301bc9e9a80532df944d095411b307f4c8", func := "warrantor/warrantorlaw20.FingerSpaces", spec := "fingerSpaces", inPlace := ["internal/abi.NoEscape"], unfollowed := true, recurses := true, apart := false, narrowed := true }
def FingerSpacesUptoSaid : Prop := fingerSpacesUptoRow.holds Try.pinned (OpenSpec.upto fingerSpacesSpec)

/-- 'warrantorlaw25.BaseSums', WHERE WHAT IT READS IS OF BULK AT MOST 1048576: true; the input reads as it did. -/
def baseSumsUptoRow : OpenClaim := { program := "ytdggnlgklicbdaa", sum := "9bcdd39b584d6e56ae0e94d9d1d028301bc9e9a80532df944d095411b307f4c8", func := "warrantor/warrantorlaw25.BaseSums", spec := "baseSums", inPlace := ["internal/abi.NoEscape"], unfollowed := true, recurses := true, apart := false, narrowed := true }
def BaseSumsUptoSaid : Prop := baseSumsUptoRow.holds Try.pinned (OpenSpec.upto baseSumsSpec)

/-- 'warrantorlaw25.BaseMany', WHERE WHAT IT READS IS OF BULK AT MOST 1048576: true; the input reads as it did. -/
def baseManyUptoRow : OpenClaim := { program := "ytdggnlgklicbdaa", sum := "9bcdd39b584d6e56ae0e94d9d1d028301bc9e9a80532df944d095411b307f4c8", func := "warrantor/warrantorlaw25.BaseMany", spec := "baseMany", inPlace := ["internal/abi.NoEscape"], unfollowed := true, recurses := true, apart := false, narrowed := true }
def BaseManyUptoSaid : Prop := baseManyUptoRow.holds Try.pinned (OpenSpec.upto baseManySpec)

end Rows
end Go.Proofs.Ytdggnlgklicbdaa
