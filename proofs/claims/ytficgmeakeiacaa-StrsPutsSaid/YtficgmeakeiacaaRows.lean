/-
  No cell of these rows narrows 'for every input' (looked for: loops, veiled, ifaces, maps, wideKeys, modest, calm, conditions, laid).
  DERIVED. THE GIVEN ROWS OF THIS SEAT. 3 by the template 'for every input the law returns true; each argument reads behind the call as it read before'; 0 by the template 'total and deterministic' (their statements: YtficgmeakeiacaaTotals.lean).
  GIVEN WITH THE SEED: the statements are not yours to turn. If you find one false, say at which input.
  Laid BY PROGRAM, IN A SANDBOX (cutbox-rows.mjs): the forced cells as the released guide's own fill.sh prints them over the translation 8dd06dec74f09087… (all of the seat's roots in one cut). By AI agents, Wed Nov 11 2026. No macro, syntax, notation, axiom, sorry.
-/
import Derived.Test.YtficgmeakeiacaaChecked
import GoSem.Claim
import GoSem.ClaimJoined
import GoSem.ClaimMapViews
import Derived.JoinedTies
import Derived.KernelRfl
namespace Go.Proofs.Ytficgmeakeiacaa
/- THE CELL 'sum', in the pinned program and in every row, IS THE sha256 OF THE DUMP (.gsa) THAT YtficgmeakeiacaaProg.lean LOADS. Nothing in Lean hashes anything: it is a label: what it is worth is what the hold of that sum in a sandbox is worth. -/
noncomputable def Try.pinned : Pinned := { name := "ytficgmeakeiacaa", sum := "8dd06dec74f09087fb76915d73b31193c953cfbacff5fcd20229197b161669a7", checked := Try.checked }
namespace Rows
def none {H : Type} : Left H := { results := [], args := [] }

/-- 'warrantorlaw05.StrsPuts': WHATEVER THE INPUT: true; the input reads as it did. -/
def strsPutsSpec : ChangeSpec := { name := "strsPuts", fn := fun _ => fun
  | [d] => { results := [.lit (.bool true)], args := [d] }
  | _ => none }
def strsPutsRow : OpenClaim := { program := "ytficgmeakeiacaa", sum := "8dd06dec74f09087fb76915d73b31193c953cfbacff5fcd20229197b161669a7", func := "warrantor/warrantorlaw05.StrsPuts", spec := "strsPuts", unfollowed := true, recurses := true, apart := false }
def StrsPutsSaid : Prop := strsPutsRow.holds Try.pinned (OpenSpec.ofChange strsPutsSpec)

/-- ITS FALSE NEIGHBOUR: 'it returns false'. Refute it at one input. -/
def strsPutsWrong : ChangeSpec := { name := "strsPuts", fn := fun _ => fun
  | [d] => { results := [.lit (.bool false)], args := [d] }
  | _ => none }
def StrsPutsWrongFalsely : Prop := strsPutsRow.holds Try.pinned (OpenSpec.ofChange strsPutsWrong)

/-- 'warrantorlaw05.StrsOf': WHATEVER THE INPUT: true; the input reads as it did. -/
def strsOfSpec : ChangeSpec := { name := "strsOf", fn := fun _ => fun
  | [d1, d2, d3] => { results := [.lit (.bool true)], args := [d1, d2, d3] }
  | _ => none }
def strsOfRow : OpenClaim := { program := "ytficgmeakeiacaa", sum := "8dd06dec74f09087fb76915d73b31193c953cfbacff5fcd20229197b161669a7", func := "warrantor/warrantorlaw05.StrsOf", spec := "strsOf", unfollowed := true, recurses := true, apart := false }
def StrsOfSaid : Prop := strsOfRow.holds Try.pinned (OpenSpec.ofChange strsOfSpec)

/-- ITS FALSE NEIGHBOUR: 'it returns false'. Refute it at one input. -/
def strsOfWrong : ChangeSpec := { name := "strsOf", fn := fun _ => fun
  | [d1, d2, d3] => { results := [.lit (.bool false)], args := [d1, d2, d3] }
  | _ => none }
def StrsOfWrongFalsely : Prop := strsOfRow.holds Try.pinned (OpenSpec.ofChange strsOfWrong)

/-- 'warrantorlaw05.StrsJoins': WHATEVER THE INPUT: true; the input reads as it did. -/
def strsJoinsSpec : ChangeSpec := { name := "strsJoins", fn := fun _ => fun
  | [d1, d2] => { results := [.lit (.bool true)], args := [d1, d2] }
  | _ => none }
def strsJoinsRow : OpenClaim := { program := "ytficgmeakeiacaa", sum := "8dd06dec74f09087fb76915d73b31193c953cfbacff5fcd20229197b161669a7", func := "warrantor/warrantorlaw05.StrsJoins", spec := "strsJoins", unfollowed := true, recurses := true, apart := false }
def StrsJoinsSaid : Prop := strsJoinsRow.holds Try.pinned (OpenSpec.ofChange strsJoinsSpec)

/-- ITS FALSE NEIGHBOUR: 'it returns false'. Refute it at one input. -/
def strsJoinsWrong : ChangeSpec := { name := "strsJoins", fn := fun _ => fun
  | [d1, d2] => { results := [.lit (.bool false)], args := [d1, d2] }
  | _ => none }
def StrsJoinsWrongFalsely : Prop := strsJoinsRow.holds Try.pinned (OpenSpec.ofChange strsJoinsWrong)

/- THE SECOND FORM. 'bulk': how many values and letters a reading holds, each counted each time it is reached (what is shared counts as often as it is met; a slice's spare places count too). A statement '..UptoSaid' is the law's where the arguments, and the package variables that the reading takes, are together of bulk at most 1048576: NARROWER than '..Said'. Prove '..Said' where nothing that the law and all that it calls make is longer than what came in: it says more and counts as full. Else prove '..UptoSaid'. A law counts once. -/
mutual
def uptoBulk {H : Type} : DataW H → Nat
  | .lit (.string bytes) => bytes.length + 1
  | .lit _ => 1
  | .nil => 1
  | .ptr d => uptoBulk d + 1
  | .slice elems spare => uptoBulkAll elems + uptoBulkAll spare + 1
  | .agg parts => uptoBulkAll parts + 1
  | .iface _ d => uptoBulk d + 1
  | .map entries => uptoBulkEntries entries + 1
  | .held _ => 1
def uptoBulkAll {H : Type} : List (DataW H) → Nat
  | [] => 0
  | d :: r => uptoBulk d + uptoBulkAll r
def uptoBulkEntries {H : Type} : List (Lit × DataW H) → Nat
  | [] => 0
  | x :: r => uptoBulkEntry x + uptoBulkEntries r
def uptoBulkEntry {H : Type} : Lit × DataW H → Nat
  | (.string bytes, d) => bytes.length + uptoBulk d + 1
  | (_, d) => uptoBulk d + 1
 end
def uptoSmall : (H : Type) → List (DataW H) → Bool := fun _ ds => decide (uptoBulkAll ds ≤ 1048576)
def OpenSpec.upto (s : _root_.Go.ChangeSpec) : _root_.Go.OpenSpec := { _root_.Go.OpenSpec.ofChange s with cond := some uptoSmall }

/-- 'warrantorlaw05.StrsPuts', WHERE WHAT IT READS IS OF BULK AT MOST 1048576: true; the input reads as it did. -/
def strsPutsUptoRow : OpenClaim := { program := "ytficgmeakeiacaa", sum := "8dd06dec74f09087fb76915d73b31193c953cfbacff5fcd20229197b161669a7", func := "warrantor/warrantorlaw05.StrsPuts", spec := "strsPuts", unfollowed := true, recurses := true, apart := false, narrowed := true }
def StrsPutsUptoSaid : Prop := strsPutsUptoRow.holds Try.pinned (OpenSpec.upto strsPutsSpec)

/-- 'warrantorlaw05.StrsOf', WHERE WHAT IT READS IS OF BULK AT MOST 1048576: true; the input reads as it did. -/
def strsOfUptoRow : OpenClaim := { program := "ytficgmeakeiacaa", sum := "8dd06dec74f09087fb76915d73b31193c953cfbacff5fcd20229197b161669a7", func := "warrantor/warrantorlaw05.StrsOf", spec := "strsOf", unfollowed := true, recurses := true, apart := false, narrowed := true }
def StrsOfUptoSaid : Prop := strsOfUptoRow.holds Try.pinned (OpenSpec.upto strsOfSpec)

/-- 'warrantorlaw05.StrsJoins', WHERE WHAT IT READS IS OF BULK AT MOST 1048576: true; the input reads as it did. -/
def strsJoinsUptoRow : OpenClaim := { program := "ytficgmeakeiacaa", sum := "8dd06dec74f09087fb76915d73b31193c953cfbacff5fcd20229197b161669a7", func := "warrantor/warrantorlaw05.StrsJoins", spec := "strsJoins", unfollowed := true, recurses := true, apart := false, narrowed := true }
def StrsJoinsUptoSaid : Prop := strsJoinsUptoRow.holds Try.pinned (OpenSpec.upto strsJoinsSpec)

end Rows
end Go.Proofs.Ytficgmeakeiacaa
