/- RecBodies: for every input it answers true, and what was handed in reads as it did. No condition. -/
import Derived.Test.YtdlnkfghgbddhaaGreatPJA2
import Derived.Test.YtdlnkfghgbddhaaGreatPJR0
import Derived.Test.YtdlnkfghgbddhaaGreatRows
set_option linter.all false

open Go Go.Ve Go.Proofs Go.ChangeShapes Go.WideShapes Go.RowKit
namespace Go.Proofs.YtdlnkfghgbddhaaGreat
set_option maxRecDepth 100000

theorem lawOk6 : LawOk Tryz.prog 6 Tryz.f6 warrantorlaw27_RecBodies.c 4 := ⟨by kernel_rfl, Tryz.func6, by kernel_rfl, by kernel_rfl, by kernel_rfl, by kernel_rfl, by kernel_rfl, by kernel_rfl⟩
theorem recBodies_lifted (os : Os) (started : os.Started) (H : Type) (enc : TypeId × Value → H) :
    ReturnsInHanded {} Tryz.checked os 6 .any (Rows.recBodiesSpec.pre6 enc Tryz.prog Tryz.f6 Rows.recBodiesRow.domain false) (Rows.recBodiesSpec.post enc Tryz.prog Tryz.f6 false true false false) := by
  refine returnsInHanded_of_change_sized (C := Tryz.checked) own started (by kernel_rfl) Tryz.func6
    (ChangeSpec.witness6 (enc := enc) (C := Tryz.checked) false ⟨#[], #[.slice none 0 0], []⟩ 8 (by kernel_rfl) (by kernel_rfl) (by kernel_rfl) (by kernel_rfl)) ?_
  intro W base args ds gs before hval hW hcnd hsz _
  refine law_contract polOk lawOk6 (fun ds hd => ?_) rfl (fun avs h => ?_) hval hW
  · match ds, hd with
    | [d], _ => rfl
  · obtain ⟨a0, rfl, h0⟩ := shapeVs1 h
    obtain ⟨b, rfl, hb⟩ := shape_bytes h0
    exact ⟨_, bodies_law b _⟩
theorem recBodies_over : Rows.recBodiesRow.holds Tryz.pinned (OpenSpec.ofChange Rows.recBodiesSpec) :=
  OpenClaim.holds_of_wide 6 Tryz.f6 rfl rfl rfl rfl rfl rfl rfl ⟨rfl, rfl, rfl, rfl, rfl⟩ rfl rfl rfl rfl rfl (by kernel_rfl) Tryz.func6 (by kernel_rfl)
    (of_decide_eq_true (by kernel_rfl)) (by unfold Func.isWrapper; first | (rw [if_pos (by decide +kernel)]; kernel_rfl) | (rw [if_neg (by decide +kernel)]; exact ⟨rfl, rfl⟩))
    (fun os started H enc _ => recBodies_lifted os started H enc)
theorem recBodies_holds : Rows.RecBodiesSaid := recBodies_over
#print axioms recBodies_holds
end Go.Proofs.YtdlnkfghgbddhaaGreat
