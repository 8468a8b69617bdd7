import Derived.Test.YtdggnlgklicbdaaVb2
import Derived.Test.YtdggnlgklicbdaaP2R0
import Derived.Test.YtdggnlgklicbdaaRows
set_option linter.all false
open Go Go.Ve Go.Proofs Go.ChangeShapes Go.WideShapes Go.RowKit
namespace Go.Proofs.Ytdggnlgklicbdaa
set_option maxRecDepth 100000
theorem lawOk6 : LawOk Try.prog 6 Try.f6 law20_FingerSpaces.c 4 := ⟨by kernel_rfl, Try.func6, by kernel_rfl, by kernel_rfl, by kernel_rfl, by kernel_rfl, by kernel_rfl, by kernel_rfl⟩
theorem fingerSpaces_lifted (os : Os) (started : os.Started) (H : Type) (enc : TypeId × Value → H) :
    ReturnsInHanded {} Try.checked os 6 .any (Rows.fingerSpacesSpec.pre6 enc Try.prog Try.f6 Rows.fingerSpacesRow.domain false) (Rows.fingerSpacesSpec.post enc Try.prog Try.f6 false true false false) := by
  refine returnsInHanded_of_change_sized (C := Try.checked) own started (by kernel_rfl) Try.func6
    (ChangeSpec.witness6 (enc := enc) (C := Try.checked) false ⟨#[], #[.slice none 0 0], []⟩ 8 (by kernel_rfl) (by kernel_rfl) (by kernel_rfl) (by kernel_rfl)) ?_
  intro W base args ds gs before hval hW hcnd hsz _
  refine law_contract polOk lawOk6 (fun ds hd => ?_) rfl (fun avs h => ?_) hval hW
  · match ds, hd with
    | [d], _ => rfl
  · obtain ⟨a0, rfl, h0⟩ := shapeVs1 h
    obtain ⟨l, rfl, hl, hi⟩ := shape_alarms h0
    exact ⟨_, fingerSpaces_den l hi⟩
theorem fingerSpaces_over : Rows.fingerSpacesRow.holds Try.pinned (OpenSpec.ofChange Rows.fingerSpacesSpec) :=
  OpenClaim.holds_of_wide 6 Try.f6 rfl rfl rfl rfl rfl rfl rfl ⟨rfl, rfl, rfl, rfl, rfl⟩ rfl rfl rfl rfl rfl (by kernel_rfl) Try.func6 (by kernel_rfl)
    (of_decide_eq_true (by kernel_rfl)) (by unfold Func.isWrapper; first | (rw [if_pos (by decide +kernel)]; kernel_rfl) | (rw [if_neg (by decide +kernel)]; exact ⟨rfl, rfl⟩))
    (fun os started H enc _ => fingerSpaces_lifted os started H enc)
theorem fingerSpaces_holds : Rows.FingerSpacesSaid := fingerSpaces_over
#print axioms fingerSpaces_holds
end Go.Proofs.Ytdggnlgklicbdaa
