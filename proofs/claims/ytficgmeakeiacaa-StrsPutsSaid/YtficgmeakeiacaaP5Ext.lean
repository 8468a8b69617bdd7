import Derived.Test.YtficgmeakeiacaaP5Pol
import Derived.Test.YtficgmeakeiacaaP5Of
import Derived.Sort.EveryDepth
set_option linter.all false
open Go Go.Ve Go.Proofs
namespace Go.Proofs.Ytficgmeakeiacaa
set_option maxRecDepth 100000
set_option linter.all false
def laysStr.ρ : Shelf.Ren := ⟨fun x => bif Nat.beq x 316 then 62 else x, fun x => bif Nat.beq x 37 then 25 else bif Nat.beq x 127 then 96 else x, fun x => x⟩
theorem laysStr.lays : LaysM.n316 Try.prog laysStr.ρ where
  mixed := by kernel_rfl
  f316 := by rw [show laysStr.ρ.f 316 = 62 from rfl, Try.func62]; kernel_rfl
  t0 := by kernel_rfl
  a0 w := by kernel_rfl
  z0 w := by kernel_rfl
  v0 w := by kernel_rfl
  t3 := by kernel_rfl
  a3 w := by kernel_rfl
  z3 w := by kernel_rfl
  v3 w := by kernel_rfl
  t4 := by kernel_rfl
  a4 w := by kernel_rfl
  z4 w := by kernel_rfl
  v4 w := by kernel_rfl
  t9 := by kernel_rfl
  a9 w := by kernel_rfl
  z9 w := by kernel_rfl
  v9 w := by kernel_rfl
  t37 := by kernel_rfl
  a37 w := by kernel_rfl
  z37 w := by kernel_rfl
  v37 w := by kernel_rfl
  t127 := by kernel_rfl
  a127 w := by kernel_rfl
  z127 w := by kernel_rfl
  v127 w := by kernel_rfl
  t5 := by kernel_rfl
  a5 w := by kernel_rfl
  z5 w := by kernel_rfl
  v5 w := by kernel_rfl
  i0 := by kernel_rfl
  i3 := by kernel_rfl
  i4 := by kernel_rfl
  i5 := by kernel_rfl
  i9 := by kernel_rfl
  i37 := by kernel_rfl
  i127 := by kernel_rfl
theorem of_is : OfIs Try.prog 14 9 where
  any b off n c zs w h1 h2 h3 := (calls_of_every_depth fun D => f_anyIn D b off n c zs w h1 h2 h3).mono fun e w' h => by
    obtain ⟨g, cap, q1, q2, q3⟩ := h
    exact ⟨g, cap, q1, q2, q3⟩
  zero a c w := (calls_of_every_depth fun D => f_zeroIn D a c w).mono fun e w' h => by
    obtain ⟨g, cap, q1, q2, q3⟩ := h
    refine ⟨g, cap, ?_, q3⟩
    have e0 : (ofL []).length = 0 := by rw [ofL_nil]; rfl
    exact q1.trans (by show Ending.returned (.slice _ (ofL []).length _) = _; rw [e0])
  none n c w := calls_of_every_depth fun D => f_nilIn D n c w
theorem polOk : PolOk Try.prog pol := polOk_tab (by kernel_rfl) (by
  intro p hp
  simp only [exts, List.mem_cons, List.not_mem_nil, or_false] at hp
  rcases hp with rfl | rfl | rfl
  · exact ofE_ok (f := 14) (t := 9) of_is Try.func14 (c := Try.f14.body.getD .skip) (by kernel_rfl) (by kernel_rfl)
  · exact cloneE_ok (A := slices_Clone_byte_byte.A) (an := slices_Clone_byte_byte.an) (f := 43) (fn := Try.f43) (by kernel_rfl) Try.func43 (c := slices_Clone_byte_byte.c) (by kernel_rfl) (by kernel_rfl) rfl (by decide +kernel) (by decide) (fun x0 h => by
      rw [body_real _ _ (by kernel_rfl)]
      exact slices_Clone_byte_byte.f_eq realJ_fix x0 h)
  · exact cloneStr_ok (f := 62) laysStr.lays rfl Try.func62 (c := Try.f62.body.getD .skip) (by kernel_rfl) (by kernel_rfl))
theorem clone_byte (l : List UInt8) (o : Own) (hl : l.length ≤ 2 ^ 40) (h : H) : D n_slices_Clone_byte_byte [BL l o] h = some (.ret (BL l (.own 1)), h) := by
  refine den_ext (e := cloneE 1 1) (by kernel_rfl) ?_
  simp only [cloneE]
  rw [if_pos]
  refine ⟨by simp, by simp; omega, by simp; omega⟩
abbrev TL (l : List Tx) (o : Own := .no) : AV := .list (l.map txRow) o
theorem strClone_den (s : Tx) (hs : s.length ≤ 2 ^ 40) (h : H) : D n_stringslite_Clone [.str s] h = some (.ret (.str s), h) := by
  refine den_ext (e := cloneStr) (by kernel_rfl) ?_
  simp only [cloneStr]
  rw [if_pos (by omega)]
end Go.Proofs.Ytficgmeakeiacaa
