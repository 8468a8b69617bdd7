import Derived.Test.YtdggnlgklicbdaaVb2
import Derived.Test.YtdggnlgklicbdaaP2R0
import Derived.Test.YtdggnlgklicbdaaRows
set_option linter.all false
open Go Go.Ve Go.Proofs Go.ChangeShapes Go.WideShapes Go.RowKit
namespace Go.Proofs.Ytdggnlgklicbdaa
set_option maxRecDepth 100000
theorem lawOk3 : LawOk Try.prog 3 Try.f3 law20_FingerOf.c 4 := ⟨by kernel_rfl, Try.func3, by kernel_rfl, by kernel_rfl, by kernel_rfl, by kernel_rfl, by kernel_rfl, by kernel_rfl⟩
theorem fingerOf_lifted (os : Os) (started : os.Started) (H : Type) (enc : TypeId × Value → H) :
    ReturnsInHanded {} Try.checked os 3 .any (Rows.fingerOfSpec.pre6 enc Try.prog Try.f3 Rows.fingerOfRow.domain false) (Rows.fingerOfSpec.post enc Try.prog Try.f3 false true false false) := by
  refine returnsInHanded_of_change_sized (C := Try.checked) own started (by kernel_rfl) Try.func3
    (ChangeSpec.witness6 (enc := enc) (C := Try.checked) false ⟨#[], #[.slice none 0 0, .agg #[.int .i64 0, .int .i64 0, .string ⟨#[]⟩, .string ⟨#[]⟩, .int .i64 0, .string ⟨#[]⟩], .int .i64 0], []⟩ 8 (by kernel_rfl) (by kernel_rfl) (by kernel_rfl) (by kernel_rfl)) ?_
  intro W base args ds gs before hval hW hcnd hsz _
  refine law_contract polOk lawOk3 (fun ds hd => ?_) rfl (fun avs h => ?_) hval hW
  · match ds, hd with
    | [d, d', d''], _ => rfl
  · obtain ⟨a0, a1, a2, rfl, h0, h1, h2⟩ := shapeVs3 h
    obtain ⟨l, rfl, hl, hi⟩ := shape_alarms h0
    obtain ⟨a, rfl, ha⟩ := shape_one_alarm h1
    obtain ⟨r, rfl, _, hr⟩ := shape_i64 h2
    exact ⟨_, fingerOf_den l hi a ha r hr⟩
theorem fingerOf_over : Rows.fingerOfRow.holds Try.pinned (OpenSpec.ofChange Rows.fingerOfSpec) :=
  OpenClaim.holds_of_wide 3 Try.f3 rfl rfl rfl rfl rfl rfl rfl ⟨rfl, rfl, rfl, rfl, rfl⟩ rfl rfl rfl rfl rfl (by kernel_rfl) Try.func3 (by kernel_rfl)
    (of_decide_eq_true (by kernel_rfl)) (by unfold Func.isWrapper; first | (rw [if_pos (by decide +kernel)]; kernel_rfl) | (rw [if_neg (by decide +kernel)]; exact ⟨rfl, rfl⟩))
    (fun os started H enc _ => fingerOf_lifted os started H enc)
theorem fingerOf_holds : Rows.FingerOfSaid := fingerOf_over
#print axioms fingerOf_holds
end Go.Proofs.Ytdggnlgklicbdaa
