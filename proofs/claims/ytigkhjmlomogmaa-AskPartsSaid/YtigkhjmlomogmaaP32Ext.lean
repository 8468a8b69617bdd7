/- The library's functions of this seat. -/
import Derived.Test.YtigkhjmlomogmaaP32Pol
set_option linter.all false

open Go Go.Ve Go.Proofs
namespace Go.Proofs.Ytigkhjmlomogmaa
set_option maxRecDepth 100000

def grow.ρ : Shelf.Ren := ⟨fun x => bif Nat.beq x 4 then 35 else x, fun x => bif Nat.beq x 25 then 31 else x, fun x => x⟩
theorem grow.lays : Lays8.n4 Try.prog grow.ρ where
  mixed := by kernel_rfl
  f4 := ⟨ "slices.Grow[[]warrantor/api.Term,warrantor/api.Term]", by kernel_rfl, by rw [show grow.ρ.f 4 = 35 from rfl, Try.func35]; kernel_rfl⟩
  t0 := by kernel_rfl
  a0 w := by kernel_rfl
  z0 w := by kernel_rfl
  v0 w := by kernel_rfl
  t3 := by kernel_rfl
  a3 w := by kernel_rfl
  z3 w := by kernel_rfl
  v3 w := by kernel_rfl
  t4 := by kernel_rfl
  a4 w := by kernel_rfl
  z4 w := by kernel_rfl
  v4 w := by kernel_rfl
  t9 := by kernel_rfl
  a9 w := by kernel_rfl
  z9 w := by kernel_rfl
  v9 w := by kernel_rfl
  t20 := by kernel_rfl
  a20 w := by kernel_rfl
  z20 w := by kernel_rfl
  v20 w := by kernel_rfl
  t22 := by kernel_rfl
  a22 w := by kernel_rfl
  z22 w := by kernel_rfl
  v22 w := by kernel_rfl

theorem polOk : PolOk Try.prog pol := polOk_tab (by kernel_rfl) (by
  intro p hp
  simp only [exts, List.mem_cons, List.not_mem_nil, or_false] at hp
  rcases hp with rfl | rfl | rfl
  · exact cloneE_ok (A := slices_Clone_api_Term_api_Term.A) (an := slices_Clone_api_Term_api_Term.an) (f := 21) (fn := Try.f21) (by kernel_rfl) Try.func21 (c := slices_Clone_api_Term_api_Term.c) (by kernel_rfl) (by kernel_rfl) rfl (by decide +kernel) (by decide) (fun x0 h => by
      rw [body_real _ _ (by kernel_rfl)]
      exact slices_Clone_api_Term_api_Term.f_eq realJ_fix x0 h)
  · exact growNil_ok (f := 35) (fn := Try.f35) grow.lays rfl Try.func35 (c := Try.f35.body.getD .skip) (by kernel_rfl) (by kernel_rfl) ((Try.prog.info? 31).getD default) (((Try.prog.info? 31).getD default).zero.getD default) (by kernel_rfl) (by kernel_rfl) (by decide +kernel) (by kernel_rfl)
  · exact indexByte_ok (f := 44) (fn := Try.f44) Try.func44 (by kernel_rfl) (by kernel_rfl) (by kernel_rfl) (by kernel_rfl))
end Go.Proofs.Ytigkhjmlomogmaa
