/- For every list of terms AskNots answers true, and the list reads as it did. No condition. -/
import Derived.Test.YtigkhjmlomogmaaP32B
import Derived.Test.YtigkhjmlomogmaaVa5
import Derived.Test.YtigkhjmlomogmaaRows
set_option linter.all false

open Go Go.Ve Go.Proofs Go.ChangeShapes Go.WideShapes Go.RowKit
namespace Go.Proofs.Ytigkhjmlomogmaa
set_option maxRecDepth 100000

theorem own : ownKnob Try.prog.godebug = none := by kernel_rfl
theorem shape_term {r : List AV} (h : Shape Try.prog 49 31 r) : ∃ t : Term, r = t.c := by
  have h1 := shape_struct (n := 48) Try.underlying31 h
  obtain ⟨a, _, rfl, ha, b, _, rfl, hb, c, _, rfl, hc, d, _, rfl, hd, e, _, rfl, he, rfl⟩ := h1
  obtain ⟨a, rfl, _, _⟩ := shape_int (n := 47) Try.underlying3 ha
  obtain ⟨b, rfl, _, _⟩ := shape_int (n := 47) Try.underlying3 hb
  obtain ⟨c, rfl, _, _⟩ := shape_int (n := 47) Try.underlying3 hc
  obtain ⟨d, rfl, _, _⟩ := shape_int (n := 47) Try.underlying3 hd
  obtain ⟨e, rfl, _⟩ := shape_string (n := 47) Try.underlying9 he
  exact ⟨⟨a, b, c, d, e⟩, rfl⟩
theorem shape_terms {v : AV} (h : ShapeV Try.prog 50 22 v) : ∃ l : List Term, v = TL l := by
  obtain ⟨rows, h1, _, h2⟩ := shape_slice (n := 49) (e := 31) Try.underlying22 (shapeV_one (by kernel_rfl) h)
  obtain ⟨l, rfl⟩ := rows_map h2 fun r hr => shape_term hr
  exact ⟨l, by cases h1; rfl⟩
theorem lawOk4 : LawOk Try.prog 4 Try.f4 warrantorlaw32_AskNots.c 4 := ⟨by kernel_rfl, Try.func4, by kernel_rfl, by kernel_rfl, by kernel_rfl, by kernel_rfl, by kernel_rfl, by kernel_rfl⟩
theorem askNots_lifted (os : Os) (started : os.Started) (H : Type) (enc : TypeId × Value → H) :
    ReturnsInHanded {} Try.checked os 4 .any (Rows.askNotsSpec.pre6 enc Try.prog Try.f4 Rows.askNotsRow.domain false) (Rows.askNotsSpec.post enc Try.prog Try.f4 false true false false) := by
  refine returnsInHanded_of_change_sized (C := Try.checked) own started (by kernel_rfl) Try.func4
    (ChangeSpec.witness6 (enc := enc) (C := Try.checked) false ⟨#[], #[.slice none 0 0], []⟩ 8 (by kernel_rfl) (by kernel_rfl) (by kernel_rfl) (by kernel_rfl)) ?_
  intro W base args ds gs before hval hW hcnd hsz _
  refine law_contract polOk lawOk4 (fun ds hd => ?_) rfl (fun avs h => ?_) hval hW
  · match ds, hd with
    | [d], _ => rfl
  · obtain ⟨a, rfl, h1⟩ := shapeVs1 h
    obtain ⟨l, rfl⟩ := shape_terms h1
    exact ⟨_, nots_law l⟩
theorem askNots_over : Rows.askNotsRow.holds Try.pinned (OpenSpec.ofChange Rows.askNotsSpec) :=
  OpenClaim.holds_of_wide 4 Try.f4 rfl rfl rfl rfl rfl rfl rfl ⟨rfl, rfl, rfl, rfl, rfl⟩ rfl rfl rfl rfl rfl (by kernel_rfl) Try.func4 (by kernel_rfl)
    (of_decide_eq_true (by kernel_rfl)) (by unfold Func.isWrapper; first | (rw [if_pos (by decide +kernel)]; kernel_rfl) | (rw [if_neg (by decide +kernel)]; exact ⟨rfl, rfl⟩))
    (fun os started H enc _ => askNots_lifted os started H enc)
theorem askNots_holds : Rows.AskNotsSaid := askNots_over
#print axioms askNots_holds
end Go.Proofs.Ytigkhjmlomogmaa
