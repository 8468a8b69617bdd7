/- For every entry, every change and every list of changes RecChecks answers true, and they read as they did. No condition. -/
import Derived.Test.YtdlnkfghgbddhaaGreatPJA1
import Derived.Test.YtdlnkfghgbddhaaGreatPJR0
import Derived.Test.YtdlnkfghgbddhaaGreatRows
set_option linter.all false

open Go Go.Ve Go.Proofs Go.ChangeShapes Go.WideShapes Go.RowKit
namespace Go.Proofs.YtdlnkfghgbddhaaGreat
set_option maxRecDepth 100000

theorem lawOk3 : LawOk Tryz.prog 3 Tryz.f3 warrantorlaw27_RecChecks.c 4 := ⟨by kernel_rfl, Tryz.func3, by kernel_rfl, by kernel_rfl, by kernel_rfl, by kernel_rfl, by kernel_rfl, by kernel_rfl⟩
theorem recChecks_lifted (os : Os) (started : os.Started) (H : Type) (enc : TypeId × Value → H) :
    ReturnsInHanded {} Tryz.checked os 3 .any (Rows.recChecksSpec.pre6 enc Tryz.prog Tryz.f3 Rows.recChecksRow.domain false) (Rows.recChecksSpec.post enc Tryz.prog Tryz.f3 false true false false) := by
  refine returnsInHanded_of_change_sized (C := Tryz.checked) own started (by kernel_rfl) Tryz.func3
    (ChangeSpec.witness6 (enc := enc) (C := Tryz.checked) false ⟨#[], #[.agg #[.int .u64 0, .int .i64 0, .int .i64 0, .string ⟨#[]⟩, .string ⟨#[]⟩, .int .i64 0, .string ⟨#[]⟩, .int .i64 0, .int .i64 0, .string ⟨#[]⟩], .agg #[.int .i64 0, .int .u64 0, .int .i64 0, .int .i64 0, .string ⟨#[]⟩, .string ⟨#[]⟩, .int .i64 0, .string ⟨#[]⟩, .int .i64 0, .int .i64 0, .string ⟨#[]⟩], .slice none 0 0], []⟩ 8 (by kernel_rfl) (by kernel_rfl) (by kernel_rfl) (by kernel_rfl)) ?_
  intro W base args ds gs before hval hW hcnd hsz _
  refine law_contract polOk lawOk3 (fun ds hd => ?_) rfl (fun avs h => ?_) hval hW
  · match ds, hd with
    | [d, d', d''], _ => rfl
  · obtain ⟨a, b, c, rfl, h1, h2, h3⟩ := shapeVs3 h
    obtain ⟨e, rfl⟩ := shape_one_entry h1
    obtain ⟨x, rfl⟩ := shape_one_change h2
    obtain ⟨l, rfl, hl⟩ := shape_changes h3
    exact ⟨_, checks_law e x l _⟩
theorem recChecks_over : Rows.recChecksRow.holds Tryz.pinned (OpenSpec.ofChange Rows.recChecksSpec) :=
  OpenClaim.holds_of_wide 3 Tryz.f3 rfl rfl rfl rfl rfl rfl rfl ⟨rfl, rfl, rfl, rfl, rfl⟩ rfl rfl rfl rfl rfl (by kernel_rfl) Tryz.func3 (by kernel_rfl)
    (of_decide_eq_true (by kernel_rfl)) (by unfold Func.isWrapper; first | (rw [if_pos (by decide +kernel)]; kernel_rfl) | (rw [if_neg (by decide +kernel)]; exact ⟨rfl, rfl⟩))
    (fun os started H enc _ => recChecks_lifted os started H enc)
theorem recChecks_holds : Rows.RecChecksSaid := recChecks_over
#print axioms recChecks_holds
end Go.Proofs.YtdlnkfghgbddhaaGreat
