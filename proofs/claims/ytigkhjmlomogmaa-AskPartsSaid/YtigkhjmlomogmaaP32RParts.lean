/- For every list of terms AskParts answers true, and the list reads as it did. No condition. -/
import Derived.Test.YtigkhjmlomogmaaP32A
import Derived.Test.YtigkhjmlomogmaaVa5
import Derived.Test.YtigkhjmlomogmaaRows
set_option linter.all false

open Go Go.Ve Go.Proofs Go.ChangeShapes Go.WideShapes Go.RowKit
namespace Go.Proofs.Ytigkhjmlomogmaa
set_option maxRecDepth 100000

theorem own : ownKnob Try.prog.godebug = none := by kernel_rfl
theorem shape_term {r : List AV} (h : Shape Try.prog 49 31 r) : ∃ t : Term, r = t.c := by
  have h1 := shape_struct (n := 48) Try.underlying31 h
  obtain ⟨a, _, rfl, ha, b, _, rfl, hb, c, _, rfl, hc, d, _, rfl, hd, e, _, rfl, he, rfl⟩ := h1
  obtain ⟨a, rfl, _, _⟩ := shape_int (n := 47) Try.underlying3 ha
  obtain ⟨b, rfl, _, _⟩ := shape_int (n := 47) Try.underlying3 hb
  obtain ⟨c, rfl, _, _⟩ := shape_int (n := 47) Try.underlying3 hc
  obtain ⟨d, rfl, _, _⟩ := shape_int (n := 47) Try.underlying3 hd
  obtain ⟨e, rfl, _⟩ := shape_string (n := 47) Try.underlying9 he
  exact ⟨⟨a, b, c, d, e⟩, rfl⟩
theorem shape_terms {v : AV} (h : ShapeV Try.prog 50 22 v) : ∃ l : List Term, v = TL l := by
  obtain ⟨rows, h1, _, h2⟩ := shape_slice (n := 49) (e := 31) Try.underlying22 (shapeV_one (by kernel_rfl) h)
  obtain ⟨l, rfl⟩ := rows_map h2 fun r hr => shape_term hr
  exact ⟨l, by cases h1; rfl⟩
theorem lawOk3 : LawOk Try.prog 3 Try.f3 warrantorlaw32_AskParts.c 4 := ⟨by kernel_rfl, Try.func3, by kernel_rfl, by kernel_rfl, by kernel_rfl, by kernel_rfl, by kernel_rfl, by kernel_rfl⟩
theorem askParts_lifted (os : Os) (started : os.Started) (H : Type) (enc : TypeId × Value → H) :
    ReturnsInHanded {} Try.checked os 3 .any (Rows.askPartsSpec.pre6 enc Try.prog Try.f3 Rows.askPartsRow.domain false) (Rows.askPartsSpec.post enc Try.prog Try.f3 false true false false) := by
  refine returnsInHanded_of_change_sized (C := Try.checked) own started (by kernel_rfl) Try.func3
    (ChangeSpec.witness6 (enc := enc) (C := Try.checked) false ⟨#[], #[.slice none 0 0], []⟩ 8 (by kernel_rfl) (by kernel_rfl) (by kernel_rfl) (by kernel_rfl)) ?_
  intro W base args ds gs before hval hW hcnd hsz _
  refine law_contract polOk lawOk3 (fun ds hd => ?_) rfl (fun avs h => ?_) hval hW
  · match ds, hd with
    | [d], _ => rfl
  · obtain ⟨a, rfl, h1⟩ := shapeVs1 h
    obtain ⟨l, rfl⟩ := shape_terms h1
    exact ⟨_, parts_law l⟩
theorem askParts_over : Rows.askPartsRow.holds Try.pinned (OpenSpec.ofChange Rows.askPartsSpec) :=
  OpenClaim.holds_of_wide 3 Try.f3 rfl rfl rfl rfl rfl rfl rfl ⟨rfl, rfl, rfl, rfl, rfl⟩ rfl rfl rfl rfl rfl (by kernel_rfl) Try.func3 (by kernel_rfl)
    (of_decide_eq_true (by kernel_rfl)) (by unfold Func.isWrapper; first | (rw [if_pos (by decide +kernel)]; kernel_rfl) | (rw [if_neg (by decide +kernel)]; exact ⟨rfl, rfl⟩))
    (fun os started H enc _ => askParts_lifted os started H enc)
theorem askParts_holds : Rows.AskPartsSaid := askParts_over
#print axioms askParts_holds
end Go.Proofs.Ytigkhjmlomogmaa
