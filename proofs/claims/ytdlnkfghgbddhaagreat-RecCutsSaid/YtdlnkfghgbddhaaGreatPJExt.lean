import Derived.Test.YtdlnkfghgbddhaaGreatPJPol
import Derived.Test.YtdlnkfghgbddhaaGreatVa5
set_option linter.all false
open Go Go.Ve Go.Proofs
namespace Go.Proofs.YtdlnkfghgbddhaaGreat
set_option maxRecDepth 100000
theorem polOk : PolOk Tryz.prog pol := polOk_tab (by kernel_rfl) (by
  intro p hp
  simp only [exts, List.mem_cons, List.not_mem_nil, or_false] at hp
  rcases hp with rfl
  exact cloneE_ok (A := slices_Clone_byte_byte.A) (an := slices_Clone_byte_byte.an) (f := 106) (fn := Tryz.f106) (by kernel_rfl) Tryz.func106 (c := slices_Clone_byte_byte.c) (by kernel_rfl) (by kernel_rfl) rfl (by decide +kernel) (by decide) (fun x0 h => by
      rw [body_real _ _ (by kernel_rfl)]
      exact slices_Clone_byte_byte.f_eq realJ_fix x0 h))
theorem clone_byte (l : List UInt8) (o : Own) (hl : l.length ≤ 2 ^ 40) (h : H) : D n_slices_Clone_byte_byte [BL l o] h = some (.ret (BL l (.own 1)), h) := by
  refine den_ext (e := cloneE 1 1) (by kernel_rfl) ?_
  simp only [cloneE]
  rw [if_pos]
  refine ⟨by simp, by simp; omega, by simp; omega⟩
end Go.Proofs.YtdlnkfghgbddhaaGreat
