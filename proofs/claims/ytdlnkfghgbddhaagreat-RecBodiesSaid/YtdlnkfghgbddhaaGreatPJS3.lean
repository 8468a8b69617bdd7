/- What the functions of the records' layer come to: 3: numbers are got. -/
import Derived.Test.YtdlnkfghgbddhaaGreatPJS2
set_option linter.all false

open Go Go.Ve Go.Proofs
namespace Go.Proofs.YtdlnkfghgbddhaaGreat
set_option maxRecDepth 100000
set_option linter.all false

abbrev G3 (r : Nat × Nat × Nat) : AV := .tuple [.int .u64 r.1, .int .i64 r.2.1, .int .i64 r.2.2]

theorem get_j0 {J : Jn (AEnd × H)} {k : Nat} (hJ : leb_Get.F D k J) (h : H) (l : List UInt8) (m n i : Nat) (hi : i ≤ 9) (hil : i < l.length) (hl : l.length ≤ 2 ^ 40) (hn : n < 128 ^ i) (h9 : i = 9 → l[i].toNat ≤ 1) (r : Nat × Nat × Nat)
    (ih : ¬ l[i].toNat < 128 → leb_Get.l0 J m (.int .u64 ((n + 128 ^ i * (l[i].toNat % 128) : Nat) : Int)) (BL l) (.int .i64 l.length) (.int .i64 ((i + 1 : Nat) : Int)) h = some (.ret (G3 r), h)) :
    leb_Get.j0 J m (.int .u64 n) (.int .i64 i) (bv l[i]) (BL l) (.int .i64 l.length) (.int .i64 i) h = some (.ret (G3 (if l[i].toNat < 128 then (n + 128 ^ i * l[i].toNat, i + 1, 0) else r)), h) := by
  rw [leb_Get.j0_eq hJ]
  have hb := l[i].toNat_lt
  have p7 : (128 : Nat) ^ i = 2 ^ (7 * i) := by rw [show (128 : Nat) = 2 ^ 7 from rfl, ← Nat.pow_mul]
  have pb : l[i].toNat % 128 * 2 ^ (7 * i) + n < 2 ^ 64 := by
    rw [← p7]
    rcases Nat.lt_or_ge i 9 with h8 | h8
    · have e1 : (128 : Nat) ^ i ≤ 128 ^ 8 := Nat.pow_le_pow_right (by decide) (by omega)
      have e2 : l[i].toNat % 128 * 128 ^ i ≤ 127 * 128 ^ 8 := Nat.mul_le_mul (by omega) e1
      omega
    · have e : i = 9 := by omega
      have := h9 e
      subst e
      have e2 : l[9].toNat % 128 * 128 ^ 9 ≤ 1 * 128 ^ 9 := Nat.mul_le_mul_right _ (by omega)
      omega
  have c1 : cvInt .u64 (.int .u8 ((l[i].toNat % 128 : Nat) : Int)) = some (.int .u64 ((l[i].toNat % 128 : Nat) : Int)) := by rw [cvInt_int, wrap_u64 (by omega) (by omega)]
  have c2 : bin .mul (.int .i64 7) (.int .i64 (i : Int)) = some (.int .i64 ((7 * i : Nat) : Int)) := by rw [bin_mul, wrap_i64 (by omega) (by omega)]; rfl
  have c3 := shl_u64 (a := l[i].toNat % 128) (k := 7 * i) (kk := .i64) (by omega) (by omega)
  have c4 := or_add (n := n) (a := l[i].toNat % 128) (k := 7 * i) (by rw [← p7]; exact hn) pb
  rw [← p7] at c4
  have c5 : bin .add (.int .i64 (i : Int)) (.int .i64 1) = some (.int .i64 ((i + 1 : Nat) : Int)) := by rw [bin_add, wrap_i64 (by omega) (by omega)]; rfl
  simp only [and_not_128, bind_some', c1, c2, c3]
  rw [← p7, c4]
  simp only [bind_some', bin_lss, c5]
  by_cases hs : l[i].toNat < 128
  · simp only [decide_eq_true (show ((l[i].toNat : Int) < 128) by omega), condV_true, copy_int, if_pos hs, Nat.mod_eq_of_lt hs]
    rfl
  · simp only [decide_eq_false (show ¬ ((l[i].toNat : Int) < 128) by omega), condV_false, if_neg hs]
    exact ih hs
theorem get_loop {J : Jn (AEnd × H)} {k : Nat} (hJ : leb_Get.F D k J) (h : H) (l : List UInt8) (hl : l.length ≤ 2 ^ 40) : ∀ (d i m n : Nat), i + d = l.length → d < m → i ≤ 9 ∨ d = 0 → n < 128 ^ i →
    leb_Get.l0 J m (.int .u64 n) (BL l) (.int .i64 l.length) (.int .i64 i) h = some (.ret (G3 (lebGo i n (l.drop i))), h)
  | 0, i, m + 1, n, hi, _, _, _ => by
    rw [leb_Get.l0_eq hJ, List.drop_of_length_le (by omega)]
    simp only [bin_lss, bind_some', decide_eq_false (show ¬ ((i : Int) < l.length) by omega), condV_false, lebGo]
    rfl
  | d + 1, i, m + 1, n, hi, hm, h9, hn => by
    have hil : i < l.length := by omega
    have h9 : i ≤ 9 := by omega
    have hb := l[i].toNat_lt
    rw [leb_Get.l0_eq hJ, List.drop_eq_getElem_cons hil]
    simp only [bin_lss, bind_some', decide_eq_true (show ((i : Int) < l.length) by omega), condV_true, BL_at hil, ldCell_rptr, byteRow_0, bin_eql, bin_gtr, lebGo]
    have good : ¬ ((i = 9 ∧ 1 < l[i].toNat) ∨ (l[i].toNat = 0 ∧ 0 < i)) → leb_Get.j1 J m (.int .u64 n) (.int .i64 i) (bv l[i]) (BL l) (.int .i64 l.length) (.int .i64 i) (.bool false) h = some (.ret (G3 (if l[i].toNat < 128 then (n + 128 ^ i * l[i].toNat, i + 1, 0) else lebGo (i + 1) (n + 128 ^ i * (l[i].toNat % 128)) (l.drop (i + 1)))), h) := by
      intro hg
      rw [leb_Get.j1_eq hJ]
      simp only [condV_false]
      refine get_j0 hJ h l m n i h9 hil hl hn (fun e => by omega) _ fun hs => ?_
      refine get_loop hJ h l hl d (i + 1) m _ (by omega) (by omega) (.inl (by omega)) ?_
      have e1 : 128 ^ i * (l[i].toNat % 128) ≤ 128 ^ i * 127 := Nat.mul_le_mul_left _ (by omega)
      rw [Nat.pow_succ]; omega
    have bad : leb_Get.j1 J m (.int .u64 n) (.int .i64 i) (bv l[i]) (BL l) (.int .i64 l.length) (.int .i64 i) (.bool true) h = some (.ret (G3 (0, 0, 11)), h) := by
      rw [leb_Get.j1_eq hJ]
      simp only [condV_true]
      rfl
    by_cases hx : (i = 9 ∧ 1 < l[i].toNat) ∨ (l[i].toNat = 0 ∧ 0 < i)
    · rw [if_pos hx]
      by_cases e9 : i = 9
      · simp only [decide_eq_true (show ((i : Int) = 9) by omega), condV_true]
        by_cases e1 : 1 < l[i].toNat
        · simp only [decide_eq_true (show ((l[i].toNat : Int) > 1) by omega), condV_true, bad]
        · simp only [decide_eq_false (show ¬ ((l[i].toNat : Int) > 1) by omega), condV_false, decide_eq_true (show ((i : Int) > 0) by omega), condV_true, decide_eq_true (show ((l[i].toNat : Int) = 0) by omega), bad]
      · simp only [decide_eq_false (show ¬ ((i : Int) = 9) by omega), condV_false, decide_eq_true (show ((i : Int) > 0) by omega), condV_true, decide_eq_true (show ((l[i].toNat : Int) = 0) by omega), bad]
    · rw [if_neg hx]
      have hg := good hx
      by_cases e9 : i = 9
      · simp only [decide_eq_true (show ((i : Int) = 9) by omega), condV_true, decide_eq_false (show ¬ ((l[i].toNat : Int) > 1) by omega), condV_false, decide_eq_true (show ((i : Int) > 0) by omega), decide_eq_false (show ¬ ((l[i].toNat : Int) = 0) by omega), hg]
      · simp only [decide_eq_false (show ¬ ((i : Int) = 9) by omega), condV_false]
        by_cases e0 : 0 < i
        · simp only [decide_eq_true (show ((i : Int) > 0) by omega), condV_true, decide_eq_false (show ¬ ((l[i].toNat : Int) = 0) by omega), hg]
        · simp only [decide_eq_false (show ¬ ((i : Int) > 0) by omega), condV_false, hg]
theorem leb_Get_den (l : List UInt8) (hl : l.length ≤ 2 ^ 40) (h : H) : D n_leb_Get [BL l] h = some (.ret (G3 (lebG l)), h) := by
  refine leb_Get.den (l.length + 1) (by simp) (h' := []) ?_ rfl rfl
  rw [leb_Get.f_eq (leb_Get.fx _)]
  simp only [BL_len, bind_some']
  exact get_loop (leb_Get.fx _) [] l hl l.length 0 (l.length + 1) 0 (by omega) (by omega) (.inl (by omega)) (by simp)

/-! the document's -/
theorem rget_j0 {J : Jn (AEnd × H)} {k : Nat} (hJ : warrantorref01_Get.F D k J) (h : H) (l : List UInt8) (m n i : Nat) (hi : i ≤ 9) (hil : i < l.length) (hl : l.length ≤ 2 ^ 40) (hn : n < 128 ^ i) (h9 : i = 9 → l[i].toNat ≤ 1) (r : Nat × Nat × Nat)
    (ih : ¬ l[i].toNat < 128 → warrantorref01_Get.l0 J m (BL l) (.int .u64 ((n + 128 ^ i * (l[i].toNat % 128) : Nat) : Int)) (.int .u64 ((128 ^ (i + 1) : Nat) : Int)) (.int .i64 ((i + 1 : Nat) : Int)) h = some (.ret (G3 r), h)) :
    warrantorref01_Get.j0 J m (BL l) (.int .u64 n) (.int .u64 ((128 ^ i : Nat) : Int)) (.int .i64 i) (.int .u64 (l[i].toNat : Int)) h = some (.ret (G3 (if l[i].toNat < 128 then (n + 128 ^ i * l[i].toNat, i + 1, 0) else r)), h) := by
  rw [warrantorref01_Get.j0_eq hJ]
  have hb := l[i].toNat_lt
  have pb : 128 ^ i * (l[i].toNat % 128) + n < 2 ^ 64 := by
    rcases Nat.lt_or_ge i 9 with h8 | h8
    · have e1 : (128 : Nat) ^ i ≤ 128 ^ 8 := Nat.pow_le_pow_right (by decide) (by omega)
      have e2 : 128 ^ i * (l[i].toNat % 128) ≤ 128 ^ 8 * 127 := Nat.mul_le_mul e1 (by omega)
      omega
    · have e : i = 9 := by omega
      have := h9 e
      subst e
      have e2 : 128 ^ 9 * (l[9].toNat % 128) ≤ 128 ^ 9 * 1 := Nat.mul_le_mul_left _ (by omega)
      omega
  have c1 : bin .rem (.int .u64 (l[i].toNat : Int)) (.int .u64 128) = some (.int .u64 ((l[i].toNat % 128 : Nat) : Int)) := by rw [bin_rem, if_neg (by decide)]; rfl
  have c2 : bin .mul (.int .u64 ((128 ^ i : Nat) : Int)) (.int .u64 ((l[i].toNat % 128 : Nat) : Int)) = some (.int .u64 ((128 ^ i * (l[i].toNat % 128) : Nat) : Int)) := by
    rw [bin_mul, show (((128 ^ i : Nat) : Int) * ((l[i].toNat % 128 : Nat) : Int)) = ((128 ^ i * (l[i].toNat % 128) : Nat) : Int) by rw [Int.natCast_mul], wrap_u64 (by omega) (by omega)]
  have c3 : bin .add (.int .u64 (n : Int)) (.int .u64 ((128 ^ i * (l[i].toNat % 128) : Nat) : Int)) = some (.int .u64 ((n + 128 ^ i * (l[i].toNat % 128) : Nat) : Int)) := by
    rw [bin_add, show ((n : Int) + ((128 ^ i * (l[i].toNat % 128) : Nat) : Int)) = ((n + 128 ^ i * (l[i].toNat % 128) : Nat) : Int) by rw [Int.natCast_add], wrap_u64 (by omega) (by omega)]
  have c5 : bin .add (.int .i64 (i : Int)) (.int .i64 1) = some (.int .i64 ((i + 1 : Nat) : Int)) := by rw [bin_add, wrap_i64 (by omega) (by omega)]; rfl
  simp only [c1, bind_some', c2, c3, bin_lss, c5]
  by_cases hs : l[i].toNat < 128
  · simp only [decide_eq_true (show ((l[i].toNat : Int) < 128) by omega), condV_true, copy_int, if_pos hs, Nat.mod_eq_of_lt hs]
    rfl
  · have hi8 : i ≤ 8 := by omega
    have e1 : (128 : Nat) ^ i ≤ 128 ^ 8 := Nat.pow_le_pow_right (by decide) hi8
    have c6 : bin .mul (.int .u64 ((128 ^ i : Nat) : Int)) (.int .u64 128) = some (.int .u64 ((128 ^ (i + 1) : Nat) : Int)) := by
      rw [bin_mul, show (((128 ^ i : Nat) : Int) * 128) = ((128 ^ (i + 1) : Nat) : Int) by rw [Nat.pow_succ, Int.natCast_mul]; rfl, wrap_u64 (by omega) (by rw [Nat.pow_succ]; omega)]
    simp only [decide_eq_false (show ¬ ((l[i].toNat : Int) < 128) by omega), condV_false, if_neg hs, c6, bind_some']
    exact ih hs
theorem rget_loop {J : Jn (AEnd × H)} {k : Nat} (hJ : warrantorref01_Get.F D k J) (h : H) (l : List UInt8) (hl : l.length ≤ 2 ^ 40) : ∀ (d i m n : Nat), i + d = l.length → d < m → i ≤ 9 ∨ d = 0 → n < 128 ^ i →
    warrantorref01_Get.l0 J m (BL l) (.int .u64 n) (.int .u64 ((128 ^ i : Nat) : Int)) (.int .i64 i) h = some (.ret (G3 (lebGo i n (l.drop i))), h)
  | 0, i, m + 1, n, hi, _, _, _ => by
    rw [warrantorref01_Get.l0_eq hJ, List.drop_of_length_le (by omega)]
    simp only [BL_len, bin_lss, bind_some', decide_eq_false (show ¬ ((i : Int) < l.length) by omega), condV_false, lebGo]
    rfl
  | d + 1, i, m + 1, n, hi, hm, h9, hn => by
    have hil : i < l.length := by omega
    have h9 : i ≤ 9 := by omega
    have hb := l[i].toNat_lt
    have cv : cvInt .u64 (bv l[i]) = some (.int .u64 (l[i].toNat : Int)) := by rw [cvInt_int, wrap_u64 (by omega) (by omega)]
    rw [warrantorref01_Get.l0_eq hJ, List.drop_eq_getElem_cons hil]
    simp only [BL_len, bin_lss, bind_some', decide_eq_true (show ((i : Int) < l.length) by omega), condV_true, BL_at hil, ldCell_rptr, byteRow_0, cv, bin_eql, bin_gtr, lebGo]
    have good : ¬ ((i = 9 ∧ 1 < l[i].toNat) ∨ (l[i].toNat = 0 ∧ 0 < i)) → warrantorref01_Get.j1 J m (BL l) (.int .u64 n) (.int .u64 ((128 ^ i : Nat) : Int)) (.int .i64 i) (.int .u64 (l[i].toNat : Int)) (.bool false) h = some (.ret (G3 (if l[i].toNat < 128 then (n + 128 ^ i * l[i].toNat, i + 1, 0) else lebGo (i + 1) (n + 128 ^ i * (l[i].toNat % 128)) (l.drop (i + 1)))), h) := by
      intro hg
      rw [warrantorref01_Get.j1_eq hJ]
      simp only [condV_false]
      refine rget_j0 hJ h l m n i h9 hil hl hn (fun e => by omega) _ fun hs => ?_
      refine rget_loop hJ h l hl d (i + 1) m _ (by omega) (by omega) (.inl (by omega)) ?_
      have e1 : 128 ^ i * (l[i].toNat % 128) ≤ 128 ^ i * 127 := Nat.mul_le_mul_left _ (by omega)
      rw [Nat.pow_succ]; omega
    have bad : warrantorref01_Get.j1 J m (BL l) (.int .u64 n) (.int .u64 ((128 ^ i : Nat) : Int)) (.int .i64 i) (.int .u64 (l[i].toNat : Int)) (.bool true) h = some (.ret (G3 (0, 0, 11)), h) := by
      rw [warrantorref01_Get.j1_eq hJ]
      simp only [condV_true]
      rfl
    by_cases hx : (i = 9 ∧ 1 < l[i].toNat) ∨ (l[i].toNat = 0 ∧ 0 < i)
    · rw [if_pos hx]
      by_cases e9 : i = 9
      · simp only [decide_eq_true (show ((i : Int) = 9) by omega), condV_true]
        by_cases e1 : 1 < l[i].toNat
        · simp only [decide_eq_true (show ((l[i].toNat : Int) > 1) by omega), condV_true, bad]
        · simp only [decide_eq_false (show ¬ ((l[i].toNat : Int) > 1) by omega), condV_false, decide_eq_true (show ((i : Int) > 0) by omega), condV_true, decide_eq_true (show ((l[i].toNat : Int) = 0) by omega), bad]
      · simp only [decide_eq_false (show ¬ ((i : Int) = 9) by omega), condV_false, decide_eq_true (show ((i : Int) > 0) by omega), condV_true, decide_eq_true (show ((l[i].toNat : Int) = 0) by omega), bad]
    · rw [if_neg hx]
      have hg := good hx
      by_cases e9 : i = 9
      · simp only [decide_eq_true (show ((i : Int) = 9) by omega), condV_true, decide_eq_false (show ¬ ((l[i].toNat : Int) > 1) by omega), condV_false, decide_eq_false (show ¬ ((l[i].toNat : Int) = 0) by omega), hg]
      · simp only [decide_eq_false (show ¬ ((i : Int) = 9) by omega), condV_false]
        by_cases e0 : l[i].toNat = 0
        · simp only [decide_eq_true (show ((l[i].toNat : Int) = 0) by omega), condV_true, decide_eq_false (show ¬ ((i : Int) > 0) by omega), hg]
        · simp only [decide_eq_false (show ¬ ((l[i].toNat : Int) = 0) by omega), condV_false, hg]
theorem rGet_den (l : List UInt8) (hl : l.length ≤ 2 ^ 40) (h : H) : D n_warrantorref01_Get [BL l] h = some (.ret (G3 (lebG l)), h) := by
  refine warrantorref01_Get.den (l.length + 1) (by simp) (h' := []) ?_ rfl rfl
  rw [warrantorref01_Get.f_eq (warrantorref01_Get.fx _)]
  exact rget_loop (warrantorref01_Get.fx _) [] l hl l.length 0 (l.length + 1) 0 (by omega) (by omega) (.inl (by omega)) (by simp)
end Go.Proofs.YtdlnkfghgbddhaaGreat
