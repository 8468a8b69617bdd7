/- What the functions of the records' layer come to: 1: numbers, words, texts as bytes. -/
import Derived.Test.YtdlnkfghgbddhaaGreatPJExt
set_option linter.all false

open Go Go.Ve Go.Proofs
namespace Go.Proofs.YtdlnkfghgbddhaaGreat
set_option maxRecDepth 100000
set_option linter.all false

theorem leb_loop {J : Jn (AEnd × H)} {k : Nat} (hJ : leb_Put.F D k J) (h : H) : ∀ (m n : Nat) (acc : List UInt8), n < 128 ^ (m + 1) → n < 2 ^ 64 → acc.length + m ≤ 1000000 →
    leb_Put.l0 J (m + 1) (.int .u64 n) (BL acc (.own 1)) h = some (.ret (BL (acc ++ lebB n) (.own 1)), h) := by
  intro m
  induction m with
  | zero =>
    intro n acc hn _ ha
    rw [leb_Put.l0_eq hJ, lebB_small (by omega)]
    have a1 := BL_app (l := acc) (l' := [UInt8.ofNat n]) (o := .own 1) (o' := .cap) (owned := true) (h := h) rfl (by simp; omega)
    simp only [bin_geq, bind_some', decide_eq_false (show ¬ ((n : Int) ≥ 128) by omega), condV_false, cv_u8, row1, a1]
  | succ m ih =>
    intro n acc hn h64 ha
    rw [leb_Put.l0_eq hJ]
    by_cases hs : n < 128
    · rw [lebB_small hs]
      have a1 := BL_app (l := acc) (l' := [UInt8.ofNat n]) (o := .own 1) (o' := .cap) (owned := true) (h := h) rfl (by simp; omega)
      simp only [bin_geq, bind_some', decide_eq_false (show ¬ ((n : Int) ≥ 128) by omega), condV_false, cv_u8, row1, a1]
    · rw [lebB_big hs]
      have a1 := BL_app (l := acc) (l' := [UInt8.ofNat (n % 128 + 128)]) (o := .own 1) (o' := .cap) (owned := true) (h := h) rfl (by simp; omega)
      have e : (UInt8.ofNat n).toNat % 128 = n % 128 := by rw [UInt8.toNat_ofNat']; omega
      have sh := shr_u64 (n := n) (k := 7) (by decide)
      have ih' := ih (n / 128) (acc ++ [UInt8.ofNat (n % 128 + 128)]) (Nat.div_lt_of_lt_mul (by rw [Nat.mul_comm, ← Nat.pow_succ]; exact hn)) (by omega) (by simp only [List.length_append, List.length_cons, List.length_nil]; omega)
      rw [List.append_assoc] at ih'
      simp only [bin_geq, bind_some', decide_eq_true (show ((n : Int) ≥ 128) by omega), condV_true, cv_u8, or_128, e, row1, a1]
      rw [show (.int .u64 7 : AV) = .int .u64 ((7 : Nat) : Int) from rfl, sh]
      exact ih'
theorem leb_Put_den (n : Nat) (hn : n < 2 ^ 64) (h : H) : D n_leb_Put [.int .u64 n] h = some (.ret (BL (lebB n) (.own 1)), h) := by
  refine leb_Put.den 10 (by simp) (h' := []) ?_ (by simp [AV.pure]) rfl
  rw [leb_Put.f_eq (leb_Put.fx 10)]
  have m1 : mkSlice 1 1 [.int .u8 0] true ([] : H) (.int .i64 0) (.int .i64 10) = some (BL [] (.own 1), []) := rfl
  simp only [m1, bind_some']
  have := leb_loop (leb_Put.fx 10) [] 9 n [] (by omega) hn (by simp)
  rw [List.nil_append] at this
  exact this
theorem rleb_loop {J : Jn (AEnd × H)} {k : Nat} (hJ : warrantorref01_Put.F D k J) (h : H) : ∀ (m n : Nat) (acc : List UInt8) (o : Own), mayApp o 1 true = true → n < 128 ^ (m + 1) → n < 2 ^ 64 → acc.length + m ≤ 1000000 →
    warrantorref01_Put.l0 J (m + 1) (.int .u64 n) (BL acc o) h = some (.ret (BL (acc ++ lebB n) (.own 1)), h) := by
  intro m
  induction m with
  | zero =>
    intro n acc o ho hn _ ha
    rw [warrantorref01_Put.l0_eq hJ, lebB_small (by omega)]
    have a1 := BL_app (l := acc) (l' := [UInt8.ofNat n]) (o' := .cap) (h := h) ho (by simp; omega)
    simp only [bin_geq, bind_some', decide_eq_false (show ¬ ((n : Int) ≥ 128) by omega), condV_false, cv_u8, row1, a1]
  | succ m ih =>
    intro n acc o ho hn h64 ha
    rw [warrantorref01_Put.l0_eq hJ]
    by_cases hs : n < 128
    · rw [lebB_small hs]
      have a1 := BL_app (l := acc) (l' := [UInt8.ofNat n]) (o' := .cap) (h := h) ho (by simp; omega)
      simp only [bin_geq, bind_some', decide_eq_false (show ¬ ((n : Int) ≥ 128) by omega), condV_false, cv_u8, row1, a1]
    · rw [lebB_big hs]
      have a1 := BL_app (l := acc) (l' := [UInt8.ofNat (n % 128 + 128)]) (o' := .cap) (h := h) ho (by simp; omega)
      have ih' := ih (n / 128) (acc ++ [UInt8.ofNat (n % 128 + 128)]) (.own 1) rfl (Nat.div_lt_of_lt_mul (by rw [Nat.mul_comm, ← Nat.pow_succ]; exact hn)) (by omega) (by simp only [List.length_append, List.length_cons, List.length_nil]; omega)
      rw [List.append_assoc] at ih'
      have e1 : bin .rem (.int .u64 (n : Int)) (.int .u64 128) = some (.int .u64 ((n % 128 : Nat) : Int)) := by rw [bin_rem, if_neg (by decide)]; rfl
      have e2 : bin .add (.int .u64 ((n % 128 : Nat) : Int)) (.int .u64 128) = some (.int .u64 ((n % 128 + 128 : Nat) : Int)) := by rw [bin_add, wrap_u64 (by omega) (by omega)]; rfl
      have e3 : bin .quo (.int .u64 (n : Int)) (.int .u64 128) = some (.int .u64 ((n / 128 : Nat) : Int)) := by rw [bin_quo, if_neg (by decide), show (n : Int).tdiv 128 = ((n / 128 : Nat) : Int) from rfl, wrap_u64 (by omega) (by omega)]
      simp only [bin_geq, bind_some', decide_eq_true (show ((n : Int) ≥ 128) by omega), condV_true, e1, e2, e3, cv_u8, row1, a1]
      exact ih'
theorem rPut_den (n : Nat) (hn : n < 2 ^ 64) (h : H) : D n_warrantorref01_Put [.int .u64 n] h = some (.ret (BL (lebB n) (.own 1)), h) := by
  refine warrantorref01_Put.den 10 (by simp) (h' := []) ?_ (by simp [AV.pure]) rfl
  rw [warrantorref01_Put.f_eq (warrantorref01_Put.fx 10)]
  have := rleb_loop (warrantorref01_Put.fx 10) [] 9 n [] .cap rfl (by omega) hn (by simp)
  rw [List.nil_append] at this
  exact this
end Go.Proofs.YtdlnkfghgbddhaaGreat
