/- For every whole number AskDeep answers true, and the number reads as it did. No condition. -/
import Derived.Test.YtigkhjmlomogmaaP32C
import Derived.Test.YtigkhjmlomogmaaVa5
import Derived.Test.YtigkhjmlomogmaaRows
set_option linter.all false

open Go Go.Ve Go.Proofs Go.ChangeShapes Go.WideShapes Go.RowKit
namespace Go.Proofs.Ytigkhjmlomogmaa
set_option maxRecDepth 100000

theorem own : ownKnob Try.prog.godebug = none := by kernel_rfl
theorem lawOk5 : LawOk Try.prog 5 Try.f5 warrantorlaw32_AskDeep.c 4 := ⟨by kernel_rfl, Try.func5, by kernel_rfl, by kernel_rfl, by kernel_rfl, by kernel_rfl, by kernel_rfl, by kernel_rfl⟩
theorem askDeep_lifted (os : Os) (started : os.Started) (H : Type) (enc : TypeId × Value → H) :
    ReturnsInHanded {} Try.checked os 5 .any (Rows.askDeepSpec.pre6 enc Try.prog Try.f5 Rows.askDeepRow.domain false) (Rows.askDeepSpec.post enc Try.prog Try.f5 false true false false) := by
  refine returnsInHanded_of_change_sized (C := Try.checked) own started (by kernel_rfl) Try.func5
    (ChangeSpec.witness6 (enc := enc) (C := Try.checked) false ⟨#[], #[.int .i64 0], []⟩ 8 (by kernel_rfl) (by kernel_rfl) (by kernel_rfl) (by kernel_rfl)) ?_
  intro W base args ds gs before hval hW hcnd hsz _
  refine law_contract polOk lawOk5 (fun ds hd => ?_) rfl (fun avs h => ?_) hval hW
  · match ds, hd with
    | [d], _ => rfl
  · obtain ⟨a, rfl, h1⟩ := shapeVs1 h
    obtain ⟨n, h2, _, _⟩ := shape_int (n := 49) Try.underlying3 (shapeV_one (by kernel_rfl) h1)
    cases h2
    exact ⟨_, deep_law n⟩
theorem askDeep_over : Rows.askDeepRow.holds Try.pinned (OpenSpec.ofChange Rows.askDeepSpec) :=
  OpenClaim.holds_of_wide 5 Try.f5 rfl rfl rfl rfl rfl rfl rfl ⟨rfl, rfl, rfl, rfl, rfl⟩ rfl rfl rfl rfl rfl (by kernel_rfl) Try.func5 (by kernel_rfl)
    (of_decide_eq_true (by kernel_rfl)) (by unfold Func.isWrapper; first | (rw [if_pos (by decide +kernel)]; kernel_rfl) | (rw [if_neg (by decide +kernel)]; exact ⟨rfl, rfl⟩))
    (fun os started H enc _ => askDeep_lifted os started H enc)
theorem askDeep_holds : Rows.AskDeepSaid := askDeep_over
#print axioms askDeep_holds
end Go.Proofs.Ytigkhjmlomogmaa
