import Derived.Test.YtdlnkfghgbddhaaGreatVb5
import Derived.Test.YtdlnkfghgbddhaaGreatPJR1
import Derived.Test.YtdlnkfghgbddhaaGreatRows
set_option linter.all false
open Go Go.Ve Go.Proofs Go.ChangeShapes Go.WideShapes Go.RowKit
namespace Go.Proofs.YtdlnkfghgbddhaaGreat
set_option maxRecDepth 100000
theorem lawOk7 : LawOk Tryz.prog 7 Tryz.f7 law27_RecCuts.c 4 := ⟨by kernel_rfl, Tryz.func7, by kernel_rfl, by kernel_rfl, by kernel_rfl, by kernel_rfl, by kernel_rfl, by kernel_rfl⟩
theorem recCuts_lifted (os : Os) (started : os.Started) (H : Type) (enc : TypeId × Value → H) :
    ReturnsInHanded {} Tryz.checked os 7 .any (Rows.recCutsSpec.pre6 enc Tryz.prog Tryz.f7 Rows.recCutsRow.domain false) (Rows.recCutsSpec.post enc Tryz.prog Tryz.f7 false true false false) := by
  refine returnsInHanded_of_change_sized (C := Tryz.checked) own started (by kernel_rfl) Tryz.func7
    (ChangeSpec.witness6 (enc := enc) (C := Tryz.checked) false ⟨#[], #[.slice none 0 0, .int .i64 0, .int .i64 0, .int .u32 0], []⟩ 8 (by kernel_rfl) (by kernel_rfl) (by kernel_rfl) (by kernel_rfl)) ?_
  intro W base args ds gs before hval hW hcnd hsz _
  refine law_contract polOk lawOk7 (fun ds hd => ?_) rfl (fun avs h => ?_) hval hW
  · match ds, hd with
    | [d, d', d'', d'''], _ => rfl
  · obtain ⟨a0, a1, a2, a3, rfl, h0, h1, h2, h3⟩ := shapeVs4 h
    obtain ⟨l, rfl, hl⟩ := shape_changes h0
    obtain ⟨n, rfl⟩ := shape_i64 h1
    obtain ⟨a, rfl⟩ := shape_i64 h2
    obtain ⟨t, rfl, ht⟩ := shape_u32 h3
    exact ⟨_, cuts_law l n a t ht _⟩
theorem recCuts_over : Rows.recCutsRow.holds Tryz.pinned (OpenSpec.ofChange Rows.recCutsSpec) :=
  OpenClaim.holds_of_wide 7 Tryz.f7 rfl rfl rfl rfl rfl rfl rfl ⟨rfl, rfl, rfl, rfl, rfl⟩ rfl rfl rfl rfl rfl (by kernel_rfl) Tryz.func7 (by kernel_rfl)
    (of_decide_eq_true (by kernel_rfl)) (by unfold Func.isWrapper; first | (rw [if_pos (by decide +kernel)]; kernel_rfl) | (rw [if_neg (by decide +kernel)]; exact ⟨rfl, rfl⟩))
    (fun os started H enc _ => recCuts_lifted os started H enc)
theorem recCuts_holds : Rows.RecCutsSaid := recCuts_over
#print axioms recCuts_holds
end Go.Proofs.YtdlnkfghgbddhaaGreat
