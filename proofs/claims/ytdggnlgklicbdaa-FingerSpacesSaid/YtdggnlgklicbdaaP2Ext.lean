import Derived.Test.YtdggnlgklicbdaaP2Pol
set_option linter.all false
open Go Go.Ve Go.Proofs
namespace Go.Proofs.Ytdggnlgklicbdaa
set_option maxRecDepth 100000
set_option linter.all false
theorem polOk : PolOk Try.prog pol := polOk_tab (by kernel_rfl) (by
  intro p hp
  simp only [exts, List.mem_cons, List.not_mem_nil, or_false] at hp
  rcases hp with rfl | rfl | rfl
  · exact partsE_ok
  · exact normE_ok
  · exact cloneE_ok (A := slices_Clone_byte_byte.A) (an := slices_Clone_byte_byte.an) (f := 103) (fn := Try.f103) (by kernel_rfl) Try.func103 (c := slices_Clone_byte_byte.c) (by kernel_rfl) (by kernel_rfl) rfl (by decide +kernel) (by decide) (fun x0 h => by
      rw [body_real _ _ (by kernel_rfl)]
      exact slices_Clone_byte_byte.f_eq realJ_fix x0 h))
theorem clone_byte (l : List UInt8) (o : Own) (hl : l.length ≤ 2 ^ 40) (h : H) : D n_slices_Clone_byte_byte [BL l o] h = some (.ret (BL l (.own 1)), h) := by
  refine den_ext (e := cloneE 1 1) (by kernel_rfl) ?_
  simp only [cloneE]
  rw [if_pos]
  refine ⟨by simp, by simp; omega, by simp; omega⟩
def normN (s : Tx) : Tx := nrm false (prts s)
theorem norm_den (s : Tx) (hs : s.length ≤ 2 ^ 42) (h : H) : D n_norm_Norm [.str s] h = some (.ret (.str (normN s)), h) := by
  refine den_ext (e := normE) (by kernel_rfl) ?_
  simp only [normE]
  rw [if_pos (by simpa using hs)]
  rfl
abbrev TL (l : List Tx) (o : Own := .no) : AV := .list (l.map txRow) o
theorem parts_den (s : Tx) (hs : s.length ≤ 2 ^ 42) (h : H) : D n_warrantorref18_Parts [.str s] h = some (.ret (TL (prts s)), h) := by
  refine den_ext (e := partsE) (by kernel_rfl) ?_
  simp only [partsE]
  rw [if_pos (by simpa using hs)]
end Go.Proofs.Ytdggnlgklicbdaa
