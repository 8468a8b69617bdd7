/- RecPuts: for every input it answers true, and what was handed in reads as it did. No condition. -/
import Derived.Test.YtdlnkfghgbddhaaGreatPJA2
import Derived.Test.YtdlnkfghgbddhaaGreatPJR0
import Derived.Test.YtdlnkfghgbddhaaGreatRows
set_option linter.all false

open Go Go.Ve Go.Proofs Go.ChangeShapes Go.WideShapes Go.RowKit
namespace Go.Proofs.YtdlnkfghgbddhaaGreat
set_option maxRecDepth 100000

theorem lawOk4 : LawOk Tryz.prog 4 Tryz.f4 warrantorlaw27_RecPuts.c 4 := ⟨by kernel_rfl, Tryz.func4, by kernel_rfl, by kernel_rfl, by kernel_rfl, by kernel_rfl, by kernel_rfl, by kernel_rfl⟩
theorem recPuts_lifted (os : Os) (started : os.Started) (H : Type) (enc : TypeId × Value → H) :
    ReturnsInHanded {} Tryz.checked os 4 .any (Rows.recPutsSpec.pre6 enc Tryz.prog Tryz.f4 Rows.recPutsRow.domain false) (Rows.recPutsSpec.post enc Tryz.prog Tryz.f4 false true false false) := by
  refine returnsInHanded_of_change_sized (C := Tryz.checked) own started (by kernel_rfl) Tryz.func4
    (ChangeSpec.witness6 (enc := enc) (C := Tryz.checked) false ⟨#[], #[.slice none 0 0, .slice none 0 0], []⟩ 8 (by kernel_rfl) (by kernel_rfl) (by kernel_rfl) (by kernel_rfl)) ?_
  intro W base args ds gs before hval hW hcnd hsz _
  refine law_contract polOk lawOk4 (fun ds hd => ?_) rfl (fun avs h => ?_) hval hW
  · match ds, hd with
    | [d, d'], _ => rfl
  · obtain ⟨a0, a1, rfl, h0, h1⟩ := shapeVs2 h
    obtain ⟨l, rfl, hl⟩ := shape_changes h0
    obtain ⟨t, rfl, ht⟩ := shape_bytes h1
    exact ⟨_, puts_law l t _⟩
theorem recPuts_over : Rows.recPutsRow.holds Tryz.pinned (OpenSpec.ofChange Rows.recPutsSpec) :=
  OpenClaim.holds_of_wide 4 Tryz.f4 rfl rfl rfl rfl rfl rfl rfl ⟨rfl, rfl, rfl, rfl, rfl⟩ rfl rfl rfl rfl rfl (by kernel_rfl) Tryz.func4 (by kernel_rfl)
    (of_decide_eq_true (by kernel_rfl)) (by unfold Func.isWrapper; first | (rw [if_pos (by decide +kernel)]; kernel_rfl) | (rw [if_neg (by decide +kernel)]; exact ⟨rfl, rfl⟩))
    (fun os started H enc _ => recPuts_lifted os started H enc)
theorem recPuts_holds : Rows.RecPutsSaid := recPuts_over
#print axioms recPuts_holds
end Go.Proofs.YtdlnkfghgbddhaaGreat
