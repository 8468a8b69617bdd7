/-
  No cell of these rows narrows 'for every input' (looked for: loops, veiled, ifaces, maps, wideKeys, modest, calm, conditions, laid).
  DERIVED. THE GIVEN ROWS OF THIS SEAT. 9 by the template 'for every input the law returns true; each argument reads behind the call as it read before'; 0 by the template 'total and deterministic' (their statements: YtdlnkfghgbddhaaGreatTotals.lean).
  GIVEN WITH THE SEED: the statements are not yours to turn. If you find one false, say at which input.
  Laid BY PROGRAM, IN A SANDBOX (cutbox-rows.mjs): the forced cells as the released guide's own fill.sh prints them over the translation 554e3b57e9c1c09a… (all of the seat's roots in one cut). By AI agents, Wed Nov 11 2026. No macro, syntax, notation, axiom, sorry.
-/
import Derived.Test.YtdlnkfghgbddhaaGreatChecked
import GoSem.Claim
import GoSem.ClaimJoined
import GoSem.ClaimMapViews
import Derived.JoinedTies
import Derived.KernelRfl
namespace Go.Proofs.YtdlnkfghgbddhaaGreat
/- THE CELL 'sum', in the pinned program and in every row, IS THE sha256 OF THE DUMP (.gsa) THAT YtdlnkfghgbddhaaGreatProg.lean LOADS. Nothing in Lean hashes anything: it is a label: what it is worth is what the hold of that sum in a sandbox is worth. -/
noncomputable def Tryz.pinned : Pinned := { name := "ytdlnkfghgbddhaagreat", sum := "554e3b57e9c1c09ad5a556ae69fde5e9d464f8666169b906985ce180348129fa", checked := Tryz.checked }
namespace Rows
def none {H : Type} : Left H := { results := [], args := [] }

/-- 'warrantorlaw27.RecChecks': WHATEVER THE INPUT: true; the input reads as it did. -/
def recChecksSpec : ChangeSpec := { name := "recChecks", fn := fun _ => fun
  | [d1, d2, d3] => { results := [.lit (.bool true)], args := [d1, d2, d3] }
  | _ => none }
def recChecksRow : OpenClaim := { program := "ytdlnkfghgbddhaagreat", sum := "554e3b57e9c1c09ad5a556ae69fde5e9d464f8666169b906985ce180348129fa", func := "warrantor/warrantorlaw27.RecChecks", spec := "recChecks", unfollowed := true, recurses := true, apart := false }
def RecChecksSaid : Prop := recChecksRow.holds Tryz.pinned (OpenSpec.ofChange recChecksSpec)

/-- ITS FALSE NEIGHBOUR: 'it returns false'. Refute it at one input. -/
def recChecksWrong : ChangeSpec := { name := "recChecks", fn := fun _ => fun
  | [d1, d2, d3] => { results := [.lit (.bool false)], args := [d1, d2, d3] }
  | _ => none }
def RecChecksWrongFalsely : Prop := recChecksRow.holds Tryz.pinned (OpenSpec.ofChange recChecksWrong)

/-- 'warrantorlaw27.RecPuts': WHATEVER THE INPUT: true; the input reads as it did. -/
def recPutsSpec : ChangeSpec := { name := "recPuts", fn := fun _ => fun
  | [d1, d2] => { results := [.lit (.bool true)], args := [d1, d2] }
  | _ => none }
def recPutsRow : OpenClaim := { program := "ytdlnkfghgbddhaagreat", sum := "554e3b57e9c1c09ad5a556ae69fde5e9d464f8666169b906985ce180348129fa", func := "warrantor/warrantorlaw27.RecPuts", spec := "recPuts", unfollowed := true, recurses := true, apart := false }
def RecPutsSaid : Prop := recPutsRow.holds Tryz.pinned (OpenSpec.ofChange recPutsSpec)

/-- ITS FALSE NEIGHBOUR: 'it returns false'. Refute it at one input. -/
def recPutsWrong : ChangeSpec := { name := "recPuts", fn := fun _ => fun
  | [d1, d2] => { results := [.lit (.bool false)], args := [d1, d2] }
  | _ => none }
def RecPutsWrongFalsely : Prop := recPutsRow.holds Tryz.pinned (OpenSpec.ofChange recPutsWrong)

/-- 'warrantorlaw27.RecGets': WHATEVER THE INPUT: true; the input reads as it did. -/
def recGetsSpec : ChangeSpec := { name := "recGets", fn := fun _ => fun
  | [d] => { results := [.lit (.bool true)], args := [d] }
  | _ => none }
def recGetsRow : OpenClaim := { program := "ytdlnkfghgbddhaagreat", sum := "554e3b57e9c1c09ad5a556ae69fde5e9d464f8666169b906985ce180348129fa", func := "warrantor/warrantorlaw27.RecGets", spec := "recGets", unfollowed := true, recurses := true, apart := false }
def RecGetsSaid : Prop := recGetsRow.holds Tryz.pinned (OpenSpec.ofChange recGetsSpec)

/-- ITS FALSE NEIGHBOUR: 'it returns false'. Refute it at one input. -/
def recGetsWrong : ChangeSpec := { name := "recGets", fn := fun _ => fun
  | [d] => { results := [.lit (.bool false)], args := [d] }
  | _ => none }
def RecGetsWrongFalsely : Prop := recGetsRow.holds Tryz.pinned (OpenSpec.ofChange recGetsWrong)

/-- 'warrantorlaw27.RecBodies': WHATEVER THE INPUT: true; the input reads as it did. -/
def recBodiesSpec : ChangeSpec := { name := "recBodies", fn := fun _ => fun
  | [d] => { results := [.lit (.bool true)], args := [d] }
  | _ => none }
def recBodiesRow : OpenClaim := { program := "ytdlnkfghgbddhaagreat", sum := "554e3b57e9c1c09ad5a556ae69fde5e9d464f8666169b906985ce180348129fa", func := "warrantor/warrantorlaw27.RecBodies", spec := "recBodies", unfollowed := true, recurses := true, apart := false }
def RecBodiesSaid : Prop := recBodiesRow.holds Tryz.pinned (OpenSpec.ofChange recBodiesSpec)

/-- ITS FALSE NEIGHBOUR: 'it returns false'. Refute it at one input. -/
def recBodiesWrong : ChangeSpec := { name := "recBodies", fn := fun _ => fun
  | [d] => { results := [.lit (.bool false)], args := [d] }
  | _ => none }
def RecBodiesWrongFalsely : Prop := recBodiesRow.holds Tryz.pinned (OpenSpec.ofChange recBodiesWrong)

/-- 'warrantorlaw27.RecCuts': WHATEVER THE INPUT: true; the input reads as it did. -/
def recCutsSpec : ChangeSpec := { name := "recCuts", fn := fun _ => fun
  | [d1, d2, d3, d4] => { results := [.lit (.bool true)], args := [d1, d2, d3, d4] }
  | _ => none }
def recCutsRow : OpenClaim := { program := "ytdlnkfghgbddhaagreat", sum := "554e3b57e9c1c09ad5a556ae69fde5e9d464f8666169b906985ce180348129fa", func := "warrantor/warrantorlaw27.RecCuts", spec := "recCuts", unfollowed := true, recurses := true, apart := false }
def RecCutsSaid : Prop := recCutsRow.holds Tryz.pinned (OpenSpec.ofChange recCutsSpec)

/-- ITS FALSE NEIGHBOUR: 'it returns false'. Refute it at one input. -/
def recCutsWrong : ChangeSpec := { name := "recCuts", fn := fun _ => fun
  | [d1, d2, d3, d4] => { results := [.lit (.bool false)], args := [d1, d2, d3, d4] }
  | _ => none }
def RecCutsWrongFalsely : Prop := recCutsRow.holds Tryz.pinned (OpenSpec.ofChange recCutsWrong)

/-- 'warrantorlaw29.JournalPuts': WHATEVER THE INPUT: true; the input reads as it did. -/
def journalPutsSpec : ChangeSpec := { name := "journalPuts", fn := fun _ => fun
  | [d1, d2] => { results := [.lit (.bool true)], args := [d1, d2] }
  | _ => none }
def journalPutsRow : OpenClaim := { program := "ytdlnkfghgbddhaagreat", sum := "554e3b57e9c1c09ad5a556ae69fde5e9d464f8666169b906985ce180348129fa", func := "warrantor/warrantorlaw29.JournalPuts", spec := "journalPuts", unfollowed := true, recurses := true, apart := false }
def JournalPutsSaid : Prop := journalPutsRow.holds Tryz.pinned (OpenSpec.ofChange journalPutsSpec)

/-- ITS FALSE NEIGHBOUR: 'it returns false'. Refute it at one input. -/
def journalPutsWrong : ChangeSpec := { name := "journalPuts", fn := fun _ => fun
  | [d1, d2] => { results := [.lit (.bool false)], args := [d1, d2] }
  | _ => none }
def JournalPutsWrongFalsely : Prop := journalPutsRow.holds Tryz.pinned (OpenSpec.ofChange journalPutsWrong)

/-- 'warrantorlaw29.JournalReads': WHATEVER THE INPUT: true; the input reads as it did. -/
def journalReadsSpec : ChangeSpec := { name := "journalReads", fn := fun _ => fun
  | [d] => { results := [.lit (.bool true)], args := [d] }
  | _ => none }
def journalReadsRow : OpenClaim := { program := "ytdlnkfghgbddhaagreat", sum := "554e3b57e9c1c09ad5a556ae69fde5e9d464f8666169b906985ce180348129fa", func := "warrantor/warrantorlaw29.JournalReads", spec := "journalReads", unfollowed := true, recurses := true, apart := false }
def JournalReadsSaid : Prop := journalReadsRow.holds Tryz.pinned (OpenSpec.ofChange journalReadsSpec)

/-- ITS FALSE NEIGHBOUR: 'it returns false'. Refute it at one input. -/
def journalReadsWrong : ChangeSpec := { name := "journalReads", fn := fun _ => fun
  | [d] => { results := [.lit (.bool false)], args := [d] }
  | _ => none }
def JournalReadsWrongFalsely : Prop := journalReadsRow.holds Tryz.pinned (OpenSpec.ofChange journalReadsWrong)

/-- 'warrantorlaw29.JournalCuts': WHATEVER THE INPUT: true; the input reads as it did. -/
def journalCutsSpec : ChangeSpec := { name := "journalCuts", fn := fun _ => fun
  | [d1, d2, d3] => { results := [.lit (.bool true)], args := [d1, d2, d3] }
  | _ => none }
def journalCutsRow : OpenClaim := { program := "ytdlnkfghgbddhaagreat", sum := "554e3b57e9c1c09ad5a556ae69fde5e9d464f8666169b906985ce180348129fa", func := "warrantor/warrantorlaw29.JournalCuts", spec := "journalCuts", unfollowed := true, recurses := true, apart := false }
def JournalCutsSaid : Prop := journalCutsRow.holds Tryz.pinned (OpenSpec.ofChange journalCutsSpec)

/-- ITS FALSE NEIGHBOUR: 'it returns false'. Refute it at one input. -/
def journalCutsWrong : ChangeSpec := { name := "journalCuts", fn := fun _ => fun
  | [d1, d2, d3] => { results := [.lit (.bool false)], args := [d1, d2, d3] }
  | _ => none }
def JournalCutsWrongFalsely : Prop := journalCutsRow.holds Tryz.pinned (OpenSpec.ofChange journalCutsWrong)

/-- 'warrantorlaw29.JournalImages': WHATEVER THE INPUT: true; the input reads as it did. -/
def journalImagesSpec : ChangeSpec := { name := "journalImages", fn := fun _ => fun
  | [d1, d2, d3] => { results := [.lit (.bool true)], args := [d1, d2, d3] }
  | _ => none }
def journalImagesRow : OpenClaim := { program := "ytdlnkfghgbddhaagreat", sum := "554e3b57e9c1c09ad5a556ae69fde5e9d464f8666169b906985ce180348129fa", func := "warrantor/warrantorlaw29.JournalImages", spec := "journalImages", unfollowed := true, recurses := true, apart := false }
def JournalImagesSaid : Prop := journalImagesRow.holds Tryz.pinned (OpenSpec.ofChange journalImagesSpec)

/-- ITS FALSE NEIGHBOUR: 'it returns false'. Refute it at one input. -/
def journalImagesWrong : ChangeSpec := { name := "journalImages", fn := fun _ => fun
  | [d1, d2, d3] => { results := [.lit (.bool false)], args := [d1, d2, d3] }
  | _ => none }
def JournalImagesWrongFalsely : Prop := journalImagesRow.holds Tryz.pinned (OpenSpec.ofChange journalImagesWrong)

/- THE SECOND FORM. 'bulk': how many values and letters a reading holds, each counted each time it is reached (what is shared counts as often as it is met; a slice's spare places count too). A statement '..UptoSaid' is the law's where the arguments, and the package variables that the reading takes, are together of bulk at most 1048576: NARROWER than '..Said'. Prove '..Said' where nothing that the law and all that it calls make is longer than what came in: it says more and counts as full. Else prove '..UptoSaid'. A law counts once. -/
mutual
def uptoBulk {H : Type} : DataW H → Nat
  | .lit (.string bytes) => bytes.length + 1
  | .lit _ => 1
  | .nil => 1
  | .ptr d => uptoBulk d + 1
  | .slice elems spare => uptoBulkAll elems + uptoBulkAll spare + 1
  | .agg parts => uptoBulkAll parts + 1
  | .iface _ d => uptoBulk d + 1
  | .map entries => uptoBulkEntries entries + 1
  | .held _ => 1
def uptoBulkAll {H : Type} : List (DataW H) → Nat
  | [] => 0
  | d :: r => uptoBulk d + uptoBulkAll r
def uptoBulkEntries {H : Type} : List (Lit × DataW H) → Nat
  | [] => 0
  | x :: r => uptoBulkEntry x + uptoBulkEntries r
def uptoBulkEntry {H : Type} : Lit × DataW H → Nat
  | (.string bytes, d) => bytes.length + uptoBulk d + 1
  | (_, d) => uptoBulk d + 1
 end
def uptoSmall : (H : Type) → List (DataW H) → Bool := fun _ ds => decide (uptoBulkAll ds ≤ 1048576)
def OpenSpec.upto (s : _root_.Go.ChangeSpec) : _root_.Go.OpenSpec := { _root_.Go.OpenSpec.ofChange s with cond := some uptoSmall }

/-- 'warrantorlaw27.RecChecks', WHERE WHAT IT READS IS OF BULK AT MOST 1048576: true; the input reads as it did. -/
def recChecksUptoRow : OpenClaim := { program := "ytdlnkfghgbddhaagreat", sum := "554e3b57e9c1c09ad5a556ae69fde5e9d464f8666169b906985ce180348129fa", func := "warrantor/warrantorlaw27.RecChecks", spec := "recChecks", unfollowed := true, recurses := true, apart := false, narrowed := true }
def RecChecksUptoSaid : Prop := recChecksUptoRow.holds Tryz.pinned (OpenSpec.upto recChecksSpec)

/-- 'warrantorlaw27.RecPuts', WHERE WHAT IT READS IS OF BULK AT MOST 1048576: true; the input reads as it did. -/
def recPutsUptoRow : OpenClaim := { program := "ytdlnkfghgbddhaagreat", sum := "554e3b57e9c1c09ad5a556ae69fde5e9d464f8666169b906985ce180348129fa", func := "warrantor/warrantorlaw27.RecPuts", spec := "recPuts", unfollowed := true, recurses := true, apart := false, narrowed := true }
def RecPutsUptoSaid : Prop := recPutsUptoRow.holds Tryz.pinned (OpenSpec.upto recPutsSpec)

/-- 'warrantorlaw27.RecGets', WHERE WHAT IT READS IS OF BULK AT MOST 1048576: true; the input reads as it did. -/
def recGetsUptoRow : OpenClaim := { program := "ytdlnkfghgbddhaagreat", sum := "554e3b57e9c1c09ad5a556ae69fde5e9d464f8666169b906985ce180348129fa", func := "warrantor/warrantorlaw27.RecGets", spec := "recGets", unfollowed := true, recurses := true, apart := false, narrowed := true }
def RecGetsUptoSaid : Prop := recGetsUptoRow.holds Tryz.pinned (OpenSpec.upto recGetsSpec)

/-- 'warrantorlaw27.RecBodies', WHERE WHAT IT READS IS OF BULK AT MOST 1048576: true; the input reads as it did. -/
def recBodiesUptoRow : OpenClaim := { program := "ytdlnkfghgbddhaagreat", sum := "554e3b57e9c1c09ad5a556ae69fde5e9d464f8666169b906985ce180348129fa", func := "warrantor/warrantorlaw27.RecBodies", spec := "recBodies", unfollowed := true, recurses := true, apart := false, narrowed := true }
def RecBodiesUptoSaid : Prop := recBodiesUptoRow.holds Tryz.pinned (OpenSpec.upto recBodiesSpec)

/-- 'warrantorlaw27.RecCuts', WHERE WHAT IT READS IS OF BULK AT MOST 1048576: true; the input reads as it did. -/
def recCutsUptoRow : OpenClaim := { program := "ytdlnkfghgbddhaagreat", sum := "554e3b57e9c1c09ad5a556ae69fde5e9d464f8666169b906985ce180348129fa", func := "warrantor/warrantorlaw27.RecCuts", spec := "recCuts", unfollowed := true, recurses := true, apart := false, narrowed := true }
def RecCutsUptoSaid : Prop := recCutsUptoRow.holds Tryz.pinned (OpenSpec.upto recCutsSpec)

/-- 'warrantorlaw29.JournalPuts', WHERE WHAT IT READS IS OF BULK AT MOST 1048576: true; the input reads as it did. -/
def journalPutsUptoRow : OpenClaim := { program := "ytdlnkfghgbddhaagreat", sum := "554e3b57e9c1c09ad5a556ae69fde5e9d464f8666169b906985ce180348129fa", func := "warrantor/warrantorlaw29.JournalPuts", spec := "journalPuts", unfollowed := true, recurses := true, apart := false, narrowed := true }
def JournalPutsUptoSaid : Prop := journalPutsUptoRow.holds Tryz.pinned (OpenSpec.upto journalPutsSpec)

/-- 'warrantorlaw29.JournalReads', WHERE WHAT IT READS IS OF BULK AT MOST 1048576: true; the input reads as it did. -/
def journalReadsUptoRow : OpenClaim := { program := "ytdlnkfghgbddhaagreat", sum := "554e3b57e9c1c09ad5a556ae69fde5e9d464f8666169b906985ce180348129fa", func := "warrantor/warrantorlaw29.JournalReads", spec := "journalReads", unfollowed := true, recurses := true, apart := false, narrowed := true }
def JournalReadsUptoSaid : Prop := journalReadsUptoRow.holds Tryz.pinned (OpenSpec.upto journalReadsSpec)

/-- 'warrantorlaw29.JournalCuts', WHERE WHAT IT READS IS OF BULK AT MOST 1048576: true; the input reads as it did. -/
def journalCutsUptoRow : OpenClaim := { program := "ytdlnkfghgbddhaagreat", sum := "554e3b57e9c1c09ad5a556ae69fde5e9d464f8666169b906985ce180348129fa", func := "warrantor/warrantorlaw29.JournalCuts", spec := "journalCuts", unfollowed := true, recurses := true, apart := false, narrowed := true }
def JournalCutsUptoSaid : Prop := journalCutsUptoRow.holds Tryz.pinned (OpenSpec.upto journalCutsSpec)

/-- 'warrantorlaw29.JournalImages', WHERE WHAT IT READS IS OF BULK AT MOST 1048576: true; the input reads as it did. -/
def journalImagesUptoRow : OpenClaim := { program := "ytdlnkfghgbddhaagreat", sum := "554e3b57e9c1c09ad5a556ae69fde5e9d464f8666169b906985ce180348129fa", func := "warrantor/warrantorlaw29.JournalImages", spec := "journalImages", unfollowed := true, recurses := true, apart := false, narrowed := true }
def JournalImagesUptoSaid : Prop := journalImagesUptoRow.holds Tryz.pinned (OpenSpec.upto journalImagesSpec)

end Rows
end Go.Proofs.YtdlnkfghgbddhaaGreat
