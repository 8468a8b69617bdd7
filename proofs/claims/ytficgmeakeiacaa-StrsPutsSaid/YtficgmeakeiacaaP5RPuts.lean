import Derived.Test.YtficgmeakeiacaaVb1
import Derived.Test.YtficgmeakeiacaaP5R0
import Derived.Test.YtficgmeakeiacaaRows
set_option linter.all false
open Go Go.Ve Go.Proofs Go.ChangeShapes Go.WideShapes Go.RowKit
namespace Go.Proofs.Ytficgmeakeiacaa
set_option maxRecDepth 100000
theorem lawOk3 : LawOk Try.prog 3 Try.f3 law05_StrsPuts.c 4 := ⟨by kernel_rfl, Try.func3, by kernel_rfl, by kernel_rfl, by kernel_rfl, by kernel_rfl, by kernel_rfl, by kernel_rfl⟩
theorem strsPuts_lifted (os : Os) (started : os.Started) (H : Type) (enc : TypeId × Value → H) :
    ReturnsInHanded {} Try.checked os 3 .any (Rows.strsPutsSpec.pre6 enc Try.prog Try.f3 Rows.strsPutsRow.domain false) (Rows.strsPutsSpec.post enc Try.prog Try.f3 false true false false) := by
  refine returnsInHanded_of_change_sized (C := Try.checked) own started (by kernel_rfl) Try.func3
    (ChangeSpec.witness6 (enc := enc) (C := Try.checked) false ⟨#[], #[.slice none 0 0], []⟩ 8 (by kernel_rfl) (by kernel_rfl) (by kernel_rfl) (by kernel_rfl)) ?_
  intro W base args ds gs before hval hW hcnd hsz _
  refine law_contract polOk lawOk3 (fun ds hd => ?_) rfl (fun avs h => ?_) hval hW
  · match ds, hd with
    | [d], _ => rfl
  · obtain ⟨a0, rfl, h0⟩ := shapeVs1 h
    obtain ⟨l, rfl, hl⟩ := shape_texts h0
    exact ⟨_, puts_law l _⟩
theorem strsPuts_over : Rows.strsPutsRow.holds Try.pinned (OpenSpec.ofChange Rows.strsPutsSpec) :=
  OpenClaim.holds_of_wide 3 Try.f3 rfl rfl rfl rfl rfl rfl rfl ⟨rfl, rfl, rfl, rfl, rfl⟩ rfl rfl rfl rfl rfl (by kernel_rfl) Try.func3 (by kernel_rfl)
    (of_decide_eq_true (by kernel_rfl)) (by unfold Func.isWrapper; first | (rw [if_pos (by decide +kernel)]; kernel_rfl) | (rw [if_neg (by decide +kernel)]; exact ⟨rfl, rfl⟩))
    (fun os started H enc _ => strsPuts_lifted os started H enc)
theorem strsPuts_holds : Rows.StrsPutsSaid := strsPuts_over
#print axioms strsPuts_holds
end Go.Proofs.Ytficgmeakeiacaa
