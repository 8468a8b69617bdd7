import Derived.Test.YtficgmeakeiacaaVb1
import Derived.Test.YtficgmeakeiacaaVa5
set_option linter.all false
open Go Go.Ve Go.Proofs
namespace Go.Proofs.Ytficgmeakeiacaa
set_option maxRecDepth 100000
theorem own : ownKnob Try.prog.godebug = none := by kernel_rfl
theorem shape_texts {v : AV} (h : ShapeV Try.prog 50 22 v) : ∃ l : List Tx, v = TL l ∧ l.length ≤ maxLen := by
  obtain ⟨rows, h1, hl, h2⟩ := shape_slice (n := 49) (e := 9) Try.underlying22 (shapeV_one (by kernel_rfl) h)
  obtain ⟨l, rfl⟩ := rows_map (c := txRow) h2 fun r hr => by
    obtain ⟨s, rfl, _⟩ := shape_string (n := 48) Try.underlying9 hr
    exact ⟨s, rfl⟩
  exact ⟨l, by cases h1; rfl, by simpa using hl⟩
end Go.Proofs.Ytficgmeakeiacaa
