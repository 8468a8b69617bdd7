/-
  No cell of these rows narrows 'for every input' (looked for: loops, veiled, ifaces, maps, wideKeys, modest, calm, conditions, laid).
  DERIVED. THE GIVEN ROWS OF THIS SEAT. 3 by the template 'for every input the law returns true; each argument reads behind the call as it read before'; 0 by the template 'total and deterministic' (their statements: YtigkhjmlomogmaaTotals.lean).
  GIVEN WITH THE SEED: the statements are not yours to turn. If you find one false, say at which input.
  Laid BY PROGRAM, IN A SANDBOX (cutbox-rows.mjs): the forced cells as the released guide's own fill.sh prints them over the translation 5414441f34626fe7… (all of the seat's roots in one cut). By AI agents, Wed Nov 11 2026. No macro, syntax, notation, axiom, sorry.
-/
import Derived.Test.YtigkhjmlomogmaaChecked
import GoSem.Claim
import GoSem.ClaimJoined
import GoSem.ClaimMapViews
import Derived.JoinedTies
import Derived.KernelRfl
namespace Go.Proofs.Ytigkhjmlomogmaa
/- THE CELL 'sum', in the pinned program and in every row, IS THE sha256 OF THE DUMP (.gsa) THAT YtigkhjmlomogmaaProg.lean LOADS. Nothing in Lean hashes anything: it is a label: what it is worth is what the hold of that sum in a sandbox is worth. -/
noncomputable def Try.pinned : Pinned := { name := "ytigkhjmlomogmaa", sum := "5414441f34626fe767a3a21232a84564be15077ff7da92b49cb5ad0efe4a9a46", checked := Try.checked }
namespace Rows
def none {H : Type} : Left H := { results := [], args := [] }

/-- 'warrantorlaw32.AskParts': WHATEVER THE INPUT: true; the input reads as it did. -/
def askPartsSpec : ChangeSpec := { name := "askParts", fn := fun _ => fun
  | [d] => { results := [.lit (.bool true)], args := [d] }
  | _ => none }
def askPartsRow : OpenClaim := { program := "ytigkhjmlomogmaa", sum := "5414441f34626fe767a3a21232a84564be15077ff7da92b49cb5ad0efe4a9a46", func := "warrantor/warrantorlaw32.AskParts", spec := "askParts", inPlace := ["internal/bytealg.IndexByteString"], unfollowed := true, recurses := true, apart := false }
def AskPartsSaid : Prop := askPartsRow.holds Try.pinned (OpenSpec.ofChange askPartsSpec)

/-- ITS FALSE NEIGHBOUR: 'it returns false'. Refute it at one input. -/
def askPartsWrong : ChangeSpec := { name := "askParts", fn := fun _ => fun
  | [d] => { results := [.lit (.bool false)], args := [d] }
  | _ => none }
def AskPartsWrongFalsely : Prop := askPartsRow.holds Try.pinned (OpenSpec.ofChange askPartsWrong)

/-- 'warrantorlaw32.AskNots': WHATEVER THE INPUT: true; the input reads as it did. -/
def askNotsSpec : ChangeSpec := { name := "askNots", fn := fun _ => fun
  | [d] => { results := [.lit (.bool true)], args := [d] }
  | _ => none }
def askNotsRow : OpenClaim := { program := "ytigkhjmlomogmaa", sum := "5414441f34626fe767a3a21232a84564be15077ff7da92b49cb5ad0efe4a9a46", func := "warrantor/warrantorlaw32.AskNots", spec := "askNots", inPlace := ["internal/bytealg.IndexByteString"], unfollowed := true, recurses := true, apart := false }
def AskNotsSaid : Prop := askNotsRow.holds Try.pinned (OpenSpec.ofChange askNotsSpec)

/-- ITS FALSE NEIGHBOUR: 'it returns false'. Refute it at one input. -/
def askNotsWrong : ChangeSpec := { name := "askNots", fn := fun _ => fun
  | [d] => { results := [.lit (.bool false)], args := [d] }
  | _ => none }
def AskNotsWrongFalsely : Prop := askNotsRow.holds Try.pinned (OpenSpec.ofChange askNotsWrong)

/-- 'warrantorlaw32.AskDeep': WHATEVER THE INPUT: true; the input reads as it did. -/
def askDeepSpec : ChangeSpec := { name := "askDeep", fn := fun _ => fun
  | [d] => { results := [.lit (.bool true)], args := [d] }
  | _ => none }
def askDeepRow : OpenClaim := { program := "ytigkhjmlomogmaa", sum := "5414441f34626fe767a3a21232a84564be15077ff7da92b49cb5ad0efe4a9a46", func := "warrantor/warrantorlaw32.AskDeep", spec := "askDeep", inPlace := ["internal/bytealg.IndexByteString"], unfollowed := true, recurses := true, apart := false }
def AskDeepSaid : Prop := askDeepRow.holds Try.pinned (OpenSpec.ofChange askDeepSpec)

/-- ITS FALSE NEIGHBOUR: 'it returns false'. Refute it at one input. -/
def askDeepWrong : ChangeSpec := { name := "askDeep", fn := fun _ => fun
  | [d] => { results := [.lit (.bool false)], args := [d] }
  | _ => none }
def AskDeepWrongFalsely : Prop := askDeepRow.holds Try.pinned (OpenSpec.ofChange askDeepWrong)

/- THE SECOND FORM. 'bulk': how many values and letters a reading holds, each counted each time it is reached (what is shared counts as often as it is met; a slice's spare places count too). A statement '..UptoSaid' is the law's where the arguments, and the package variables that the reading takes, are together of bulk at most 1048576: NARROWER than '..Said'. Prove '..Said' where nothing that the law and all that it calls make is longer than what came in: it says more and counts as full. Else prove '..UptoSaid'. A law counts once. -/
mutual
def uptoBulk {H : Type} : DataW H → Nat
  | .lit (.string bytes) => bytes.length + 1
  | .lit _ => 1
  | .nil => 1
  | .ptr d => uptoBulk d + 1
  | .slice elems spare => uptoBulkAll elems + uptoBulkAll spare + 1
  | .agg parts => uptoBulkAll parts + 1
  | .iface _ d => uptoBulk d + 1
  | .map entries => uptoBulkEntries entries + 1
  | .held _ => 1
def uptoBulkAll {H : Type} : List (DataW H) → Nat
  | [] => 0
  | d :: r => uptoBulk d + uptoBulkAll r
def uptoBulkEntries {H : Type} : List (Lit × DataW H) → Nat
  | [] => 0
  | x :: r => uptoBulkEntry x + uptoBulkEntries r
def uptoBulkEntry {H : Type} : Lit × DataW H → Nat
  | (.string bytes, d) => bytes.length + uptoBulk d + 1
  | (_, d) => uptoBulk d + 1
 end
def uptoSmall : (H : Type) → List (DataW H) → Bool := fun _ ds => decide (uptoBulkAll ds ≤ 1048576)
def OpenSpec.upto (s : _root_.Go.ChangeSpec) : _root_.Go.OpenSpec := { _root_.Go.OpenSpec.ofChange s with cond := some uptoSmall }

/-- 'warrantorlaw32.AskParts', WHERE WHAT IT READS IS OF BULK AT MOST 1048576: true; the input reads as it did. -/
def askPartsUptoRow : OpenClaim := { program := "ytigkhjmlomogmaa", sum := "5414441f34626fe767a3a21232a84564be15077ff7da92b49cb5ad0efe4a9a46", func := "warrantor/warrantorlaw32.AskParts", spec := "askParts", inPlace := ["internal/bytealg.IndexByteString"], unfollowed := true, recurses := true, apart := false, narrowed := true }
def AskPartsUptoSaid : Prop := askPartsUptoRow.holds Try.pinned (OpenSpec.upto askPartsSpec)

/-- 'warrantorlaw32.AskNots', WHERE WHAT IT READS IS OF BULK AT MOST 1048576: true; the input reads as it did. -/
def askNotsUptoRow : OpenClaim := { program := "ytigkhjmlomogmaa", sum := "5414441f34626fe767a3a21232a84564be15077ff7da92b49cb5ad0efe4a9a46", func := "warrantor/warrantorlaw32.AskNots", spec := "askNots", inPlace := ["internal/bytealg.IndexByteString"], unfollowed := true, recurses := true, apart := false, narrowed := true }
def AskNotsUptoSaid : Prop := askNotsUptoRow.holds Try.pinned (OpenSpec.upto askNotsSpec)

/-- 'warrantorlaw32.AskDeep', WHERE WHAT IT READS IS OF BULK AT MOST 1048576: true; the input reads as it did. -/
def askDeepUptoRow : OpenClaim := { program := "ytigkhjmlomogmaa", sum := "5414441f34626fe767a3a21232a84564be15077ff7da92b49cb5ad0efe4a9a46", func := "warrantor/warrantorlaw32.AskDeep", spec := "askDeep", inPlace := ["internal/bytealg.IndexByteString"], unfollowed := true, recurses := true, apart := false, narrowed := true }
def AskDeepUptoSaid : Prop := askDeepUptoRow.holds Try.pinned (OpenSpec.upto askDeepSpec)

end Rows
end Go.Proofs.Ytigkhjmlomogmaa
