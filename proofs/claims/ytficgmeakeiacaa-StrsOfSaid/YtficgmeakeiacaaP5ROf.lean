import Derived.Test.YtficgmeakeiacaaVb0
import Derived.Test.YtficgmeakeiacaaP5R0
import Derived.Test.YtficgmeakeiacaaRows
set_option linter.all false
open Go Go.Ve Go.Proofs Go.ChangeShapes Go.WideShapes Go.RowKit
namespace Go.Proofs.Ytficgmeakeiacaa
set_option maxRecDepth 100000
theorem lawOk4 : LawOk Try.prog 4 Try.f4 law05_StrsOf.c 4 := ⟨by kernel_rfl, Try.func4, by kernel_rfl, by kernel_rfl, by kernel_rfl, by kernel_rfl, by kernel_rfl, by kernel_rfl⟩
theorem strsOf_lifted (os : Os) (started : os.Started) (H : Type) (enc : TypeId × Value → H) :
    ReturnsInHanded {} Try.checked os 4 .any (Rows.strsOfSpec.pre6 enc Try.prog Try.f4 Rows.strsOfRow.domain false) (Rows.strsOfSpec.post enc Try.prog Try.f4 false true false false) := by
  refine returnsInHanded_of_change_sized (C := Try.checked) own started (by kernel_rfl) Try.func4
    (ChangeSpec.witness6 (enc := enc) (C := Try.checked) false ⟨#[], #[.slice none 0 0, .string ⟨#[]⟩, .slice none 0 0], []⟩ 8 (by kernel_rfl) (by kernel_rfl) (by kernel_rfl) (by kernel_rfl)) ?_
  intro W base args ds gs before hval hW hcnd hsz _
  refine law_contract polOk lawOk4 (fun ds hd => ?_) rfl (fun avs h => ?_) hval hW
  · match ds, hd with
    | [d, d', d''], _ => rfl
  · obtain ⟨a0, a1, a2, rfl, h0, h1, h2⟩ := shapeVs3 h
    obtain ⟨l, rfl, hl⟩ := shape_texts h0
    obtain ⟨s, rfl⟩ := shape_text h1
    obtain ⟨m, rfl, hm⟩ := shape_texts h2
    exact ⟨_, of_law l m s _⟩
theorem strsOf_over : Rows.strsOfRow.holds Try.pinned (OpenSpec.ofChange Rows.strsOfSpec) :=
  OpenClaim.holds_of_wide 4 Try.f4 rfl rfl rfl rfl rfl rfl rfl ⟨rfl, rfl, rfl, rfl, rfl⟩ rfl rfl rfl rfl rfl (by kernel_rfl) Try.func4 (by kernel_rfl)
    (of_decide_eq_true (by kernel_rfl)) (by unfold Func.isWrapper; first | (rw [if_pos (by decide +kernel)]; kernel_rfl) | (rw [if_neg (by decide +kernel)]; exact ⟨rfl, rfl⟩))
    (fun os started H enc _ => strsOf_lifted os started H enc)
theorem strsOf_holds : Rows.StrsOfSaid := strsOf_over
#print axioms strsOf_holds
end Go.Proofs.Ytficgmeakeiacaa
