import Derived.Test.YtficgmeakeiacaaVb0
import Derived.Test.YtficgmeakeiacaaP5R0
import Derived.Test.YtficgmeakeiacaaRows
set_option linter.all false
open Go Go.Ve Go.Proofs Go.ChangeShapes Go.WideShapes Go.RowKit
namespace Go.Proofs.Ytficgmeakeiacaa
set_option maxRecDepth 100000
theorem lawOk5 : LawOk Try.prog 5 Try.f5 law05_StrsJoins.c 4 := ⟨by kernel_rfl, Try.func5, by kernel_rfl, by kernel_rfl, by kernel_rfl, by kernel_rfl, by kernel_rfl, by kernel_rfl⟩
theorem strsJoins_lifted (os : Os) (started : os.Started) (H : Type) (enc : TypeId × Value → H) :
    ReturnsInHanded {} Try.checked os 5 .any (Rows.strsJoinsSpec.pre6 enc Try.prog Try.f5 Rows.strsJoinsRow.domain false) (Rows.strsJoinsSpec.post enc Try.prog Try.f5 false true false false) := by
  refine returnsInHanded_of_change_sized (C := Try.checked) own started (by kernel_rfl) Try.func5
    (ChangeSpec.witness6 (enc := enc) (C := Try.checked) false ⟨#[], #[.slice none 0 0, .slice none 0 0], []⟩ 8 (by kernel_rfl) (by kernel_rfl) (by kernel_rfl) (by kernel_rfl)) ?_
  intro W base args ds gs before hval hW hcnd hsz _
  refine law_contract polOk lawOk5 (fun ds hd => ?_) rfl (fun avs h => ?_) hval hW
  · match ds, hd with
    | [d, d'], _ => rfl
  · obtain ⟨a0, a1, rfl, h0, h1⟩ := shapeVs2 h
    obtain ⟨a, rfl, ha⟩ := shape_texts h0
    obtain ⟨b, rfl, hb⟩ := shape_texts h1
    exact ⟨_, joins_law a b _⟩
theorem strsJoins_over : Rows.strsJoinsRow.holds Try.pinned (OpenSpec.ofChange Rows.strsJoinsSpec) :=
  OpenClaim.holds_of_wide 5 Try.f5 rfl rfl rfl rfl rfl rfl rfl ⟨rfl, rfl, rfl, rfl, rfl⟩ rfl rfl rfl rfl rfl (by kernel_rfl) Try.func5 (by kernel_rfl)
    (of_decide_eq_true (by kernel_rfl)) (by unfold Func.isWrapper; first | (rw [if_pos (by decide +kernel)]; kernel_rfl) | (rw [if_neg (by decide +kernel)]; exact ⟨rfl, rfl⟩))
    (fun os started H enc _ => strsJoins_lifted os started H enc)
theorem strsJoins_holds : Rows.StrsJoinsSaid := strsJoins_over
#print axioms strsJoins_holds
end Go.Proofs.Ytficgmeakeiacaa
