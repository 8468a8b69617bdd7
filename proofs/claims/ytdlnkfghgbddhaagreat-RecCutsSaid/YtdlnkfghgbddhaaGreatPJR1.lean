import Derived.Test.YtdlnkfghgbddhaaGreatPJR0
set_option linter.all false
open Go Go.Ve Go.Proofs
namespace Go.Ve
theorem shapeVs4 {P : Program} {n : Nat} {t u x y : TypeId} {avs : List AV} (h : ShapeVs P n [t, u, x, y] avs) : ∃ a b c d, avs = [a, b, c, d] ∧ ShapeV P n t a ∧ ShapeV P n u b ∧ ShapeV P n x c ∧ ShapeV P n y d := by
  match avs, h with
  | a :: r, ⟨h1, h2⟩ => obtain ⟨b, c, d, rfl, h3⟩ := shapeVs3 h2; exact ⟨a, b, c, d, rfl, h1, h3⟩
  | [], h => exact h.elim
end Go.Ve
namespace Go.Proofs.YtdlnkfghgbddhaaGreat
set_option maxRecDepth 100000
theorem shape_i64 {v : AV} (h : ShapeV Tryz.prog 50 3 v) : ∃ z : Int, v = .int .i64 z := by
  obtain ⟨z, h1, _, _⟩ := shape_int (n := 49) Tryz.underlying3 (shapeV_one (by kernel_rfl) h)
  exact ⟨z, by cases h1; rfl⟩
theorem shape_u32 {v : AV} (h : ShapeV Tryz.prog 50 50 v) : ∃ n : Nat, v = .int .u32 (n : Int) ∧ n < 2 ^ 32 := by
  obtain ⟨z, h1, h2, h3⟩ := shape_int (n := 49) Tryz.underlying50 (shapeV_one (by kernel_rfl) h)
  have h2 : (0 : Int) ≤ z := h2
  have h3 : z ≤ 4294967295 := h3
  obtain ⟨k, rfl⟩ := Int.eq_ofNat_of_zero_le h2
  exact ⟨k, by cases h1; rfl, by omega⟩
end Go.Proofs.YtdlnkfghgbddhaaGreat
