/- What the functions of the records' layer come to: 2: sums of bytes. -/
import Derived.Test.YtdlnkfghgbddhaaGreatPJS1
import Derived.Test.YtdlnkfghgbddhaaGreatVa6
set_option linter.all false

open Go Go.Ve Go.Proofs
namespace Go.Proofs.YtdlnkfghgbddhaaGreat
set_option maxRecDepth 100000
set_option linter.all false

theorem bits_step (c : BitVec 32) {R : Type} (k : AV → Option R) :
    ((bin .shr (w32 c) (.int .u64 1)).bind fun v2 => (bin .and (w32 c) (.int .u32 1)).bind fun v3 => (unOp .neg v3).bind fun v4 => (bin .and (.int .u32 2197175160) v4).bind fun v5 => (bin .xor v2 v5).bind k) = k (w32 (crcS c)) := by
  have h1 : bin .shr (w32 c) (.int .u64 1) = some (w32 (c >>> 1)) := by
    have := shr_u32 (n := c.toNat) (k := 1) (kk := .u64) (by decide)
    rw [Nat.pow_one, shr1_32] at this
    exact this
  have h2 := and_32 c 1#32
  have h3 := neg_32 (c &&& 1#32)
  have h4 := and_32 2197175160#32 (-(c &&& 1#32))
  have h5 := xor_32 (c >>> 1) (2197175160#32 &&& -(c &&& 1#32))
  rw [show (.int .u32 1 : AV) = w32 1#32 from rfl, show (.int .u32 2197175160 : AV) = w32 2197175160#32 from rfl, h1, h2]
  simp only [bind_some', h3, h4, h5]
  rw [poly_and]; rfl
theorem bits_loop {J : Jn (AEnd × H)} {k : Nat} (hJ : crc_bits.F D k J) (h : H) (n : Nat) (hn : n ≤ 1000) : ∀ (d i m : Nat) (c : BitVec 32), i + d = n → d < m →
    crc_bits.l0 J m (w32 c) (.int .i64 n) (.int .i64 i) h = some (.ret (w32 (crcN d c)), h)
  | 0, i, m + 1, c, hi, _ => by
    rw [crc_bits.l0_eq hJ]
    simp only [bin_lss, bind_some', decide_eq_false (show ¬ ((i : Int) < n) by omega), condV_false, copy_int, crcN]
  | d + 1, i, m + 1, c, hi, hm => by
    have ih := bits_loop hJ h n hn d (i + 1) m (crcS c) (by omega) (by omega)
    rw [crc_bits.l0_eq hJ]
    simp only [bin_lss, bind_some', decide_eq_true (show ((i : Int) < n) by omega), condV_true]
    rw [bits_step]
    simp only [bin_add, wrap_i64 (show -9223372036854775808 ≤ (i : Int) + 1 by omega) (by omega), bind_some']
    exact ih
theorem bits_den (c : BitVec 32) (n : Nat) (hn : n ≤ 1000) (h : H) : D n_crc_bits [w32 c, .int .i64 n] h = some (.ret (w32 (crcN n c)), h) := by
  refine crc_bits.den 1001 (by simp) (h' := []) ?_ rfl rfl
  rw [crc_bits.f_eq (crc_bits.fx 1001)]
  exact bits_loop (crc_bits.fx 1001) [] n hn n 0 1001 c (by omega) (by omega)
theorem more_loop {J : Jn (AEnd × H)} {k : Nat} (hJ : crc_More.F D k J) (h : H) (l : List UInt8) (hl : l.length ≤ 2 ^ 40) : ∀ (d i m : Nat) (c : BitVec 32), i + d = l.length → d < m →
    crc_More.l0 J m (w32 c) (BL l) (.int .i64 l.length) (.int .i64 i) h = some (.ret (w32 (~~~ crcL c (l.drop i))), h)
  | 0, i, m + 1, c, hi, _ => by
    rw [crc_More.l0_eq hJ]
    have e : l.drop i = [] := List.drop_of_length_le (by omega)
    simp only [bin_lss, bind_some', decide_eq_false (show ¬ ((i : Int) < l.length) by omega), condV_false, not_32, copy_int, e, crcL]
  | d + 1, i, m + 1, c, hi, hm => by
    have hil : i < l.length := by omega
    have ih := more_loop hJ h l hl d (i + 1) m (crcN 8 (c ^^^ byte32 l[i])) (by omega) (by omega)
    rw [crc_More.l0_eq hJ, List.drop_eq_getElem_cons hil]
    have hb : cvInt .u32 (bv l[i]) = some (w32 (byte32 l[i])) := by
      have := l[i].toNat_lt
      rw [cvInt_int]
      congr 1
    have h8 := bits_den (c ^^^ byte32 l[i]) 8 (by decide) h
    simp only [bin_lss, bind_some', decide_eq_true (show ((i : Int) < l.length) by omega), condV_true, BL_at hil, ldCell_rptr, byteRow_0, hb, xor_32, canon_int]
    rw [show (.int .i64 8 : AV) = .int .i64 ((8 : Nat) : Int) from rfl, h8]
    simp only [bind_some', retOr_ret, bin_add, wrap_i64 (show -9223372036854775808 ≤ (i : Int) + 1 by omega) (by omega), crcL]
    exact ih
theorem crcSum_den (l : List UInt8) (o : Own) (hl : l.length ≤ 2 ^ 40) (h : H) : D n_crc_Sum [BL l o] h = some (.ret (w32 (crcB l)), h) := by
  have hm : D n_crc_More [.int .u32 0, BL l] [] = some (.ret (w32 (crcB l)), []) := by
    refine crc_More.den (l.length + 1) (by simp) (h' := []) ?_ rfl rfl
    rw [crc_More.f_eq (crc_More.fx _)]
    rw [show (.int .u32 0 : AV) = w32 0#32 from rfl]
    simp only [not_32, bind_some', BL_len]
    exact more_loop (crc_More.fx _) [] l hl l.length 0 (l.length + 1) _ (by omega) (by omega)
  refine crc_Sum.den 0 (by simp) (h' := []) ?_ rfl rfl
  rw [crc_Sum.f_eq (crc_Sum.fx 0)]
  simp only [canon_int, BL_canon, hm, bind_some', retOr_ret]
theorem whole_den (l : List UInt8) (o : Own) (c : BitVec 32) (hl : l.length ≤ 2 ^ 40) (h : H) : D n_crc_Whole [BL l o, w32 c] h = some (.ret (.bool (decide (crcB l = c))), h) := by
  refine crc_Whole.den 0 (by simp) (h' := []) ?_ rfl rfl
  rw [crc_Whole.f_eq (crc_Whole.fx 0)]
  have e : decide (((crcB l).toNat : Int) = (c.toNat : Int)) = decide (crcB l = c) := by
    congr 1
    exact propext ⟨fun h => BitVec.eq_of_toNat_eq (by omega), fun h => by rw [h]⟩
  simp only [BL_canon, crcSum_den l _ hl, bind_some', retOr_ret, bin_eql, e, copy_bool]

/-! the document's -/
theorem rbit_den (c x : BitVec 32) (h : H) : D n_warrantorref03_bit [w32 c, w32 x] h = some (.ret (w32 ((c >>> 1) ^^^ (if c.toNat % 2 ≠ x.toNat % 2 then 2197175160#32 else 0#32))), h) := by
  refine warrantorref03_bit.den 0 (by simp) (h' := []) ?_ rfl rfl
  rw [warrantorref03_bit.f_eq (warrantorref03_bit.fx 0)]
  have e1 : ∀ c : BitVec 32, bin .rem (w32 c) (.int .u32 2) = some (.int .u32 ((c.toNat % 2 : Nat) : Int)) := fun c => by rw [bin_rem, if_neg (by decide)]; rfl
  have e2 : bin .quo (w32 c) (.int .u32 2) = some (w32 (c >>> 1)) := by
    rw [bin_quo, if_neg (by decide), show ((c.toNat : Int)).tdiv 2 = ((c.toNat / 2 : Nat) : Int) from rfl, shr1_32, wrap_32]
  simp only [e1, e2, bind_some', bin_neq]
  by_cases hc : c.toNat % 2 = x.toNat % 2
  · simp only [decide_eq_false (show ¬ (((c.toNat % 2 : Nat) : Int) ≠ ((x.toNat % 2 : Nat) : Int)) by omega), condV_false, copy_int, if_neg (show ¬ (c.toNat % 2 ≠ x.toNat % 2) by omega), BitVec.xor_zero]
  · have hx := xor_32 (c >>> 1) 2197175160#32
    simp only [decide_eq_true (show (((c.toNat % 2 : Nat) : Int) ≠ ((x.toNat % 2 : Nat) : Int)) by omega), condV_true, if_pos (show (c.toNat % 2 ≠ x.toNat % 2) by omega)]
    rw [show (.int .u32 2197175160 : AV) = w32 2197175160#32 from rfl, hx]
    simp only [bind_some', copy_int]
theorem rtake_loop {J : Jn (AEnd × H)} {k : Nat} (hJ : warrantorref03_take.F D k J) (h : H) : ∀ (d i m : Nat) (c x : BitVec 32), i + d = 8 → d < m → x.toNat < 2 ^ d →
    warrantorref03_take.l0 J m (w32 c) (w32 x) (.int .i64 i) h = some (.ret (w32 (crcN d (c ^^^ x))), h)
  | 0, i, m + 1, c, x, hi, _, hx => by
    rw [warrantorref03_take.l0_eq hJ]
    have : x = 0#32 := BitVec.eq_of_toNat_eq (by simpa using hx)
    subst this
    simp only [bin_lss, bind_some', decide_eq_false (show ¬ ((i : Int) < 8) by omega), condV_false, copy_int, crcN, BitVec.xor_zero]
  | d + 1, i, m + 1, c, x, hi, hm, hx => by
    rw [warrantorref03_take.l0_eq hJ]
    have ih := rtake_loop hJ h d (i + 1) m ((c >>> 1) ^^^ (if c.toNat % 2 ≠ x.toNat % 2 then 2197175160#32 else 0#32)) (x >>> 1) (by omega) (by omega) (by rw [← shr1_32'] ; omega)
    have e2 : bin .quo (w32 x) (.int .u32 2) = some (w32 (x >>> 1)) := by
      rw [bin_quo, if_neg (by decide), show ((x.toNat : Int)).tdiv 2 = ((x.toNat / 2 : Nat) : Int) from rfl, shr1_32, wrap_32]
    rw [← crcS_xor] at ih
    simp only [bin_lss, bind_some', decide_eq_true (show ((i : Int) < 8) by omega), condV_true, canon_int, rbit_den, retOr_ret, e2, bin_add, wrap_i64 (show -9223372036854775808 ≤ (i : Int) + 1 by omega) (by omega), crcN]
    exact ih
theorem rtake_den (c : BitVec 32) (b : UInt8) (h : H) : D n_warrantorref03_take [w32 c, bv b] h = some (.ret (w32 (crcN 8 (c ^^^ byte32 b))), h) := by
  refine warrantorref03_take.den 9 (by simp) (h' := []) ?_ rfl rfl
  rw [warrantorref03_take.f_eq (warrantorref03_take.fx 9)]
  have := b.toNat_lt
  have hb : cvInt .u32 (bv b) = some (w32 (byte32 b)) := by
    rw [cvInt_int]
    congr 1
  simp only [hb, bind_some']
  exact rtake_loop (warrantorref03_take.fx 9) [] 8 0 9 c (byte32 b) (by omega) (by omega) (by rw [byte32, BitVec.toNat_ofNat]; omega)
theorem rmore_loop {J : Jn (AEnd × H)} {k : Nat} (hJ : warrantorref03_More.F D k J) (h : H) (l : List UInt8) (hl : l.length ≤ 2 ^ 40) : ∀ (d i m : Nat) (c : BitVec 32), i + d = l.length → d < m →
    warrantorref03_More.l0 J m (BL l) (w32 c) (.int .i64 i) h = some (.ret (w32 (~~~ crcL c (l.drop i))), h)
  | 0, i, m + 1, c, hi, _ => by
    rw [warrantorref03_More.l0_eq hJ]
    have e : l.drop i = [] := List.drop_of_length_le (by omega)
    simp only [BL_len, bin_lss, bind_some', decide_eq_false (show ¬ ((i : Int) < l.length) by omega), condV_false, sub_all, copy_int, e, crcL]
  | d + 1, i, m + 1, c, hi, hm => by
    have hil : i < l.length := by omega
    have ih := rmore_loop hJ h l hl d (i + 1) m (crcN 8 (c ^^^ byte32 l[i])) (by omega) (by omega)
    rw [warrantorref03_More.l0_eq hJ, List.drop_eq_getElem_cons hil]
    simp only [BL_len, bin_lss, bind_some', decide_eq_true (show ((i : Int) < l.length) by omega), condV_true, BL_at hil, ldCell_rptr, byteRow_0, canon_int, rtake_den, retOr_ret, bin_add, wrap_i64 (show -9223372036854775808 ≤ (i : Int) + 1 by omega) (by omega), crcL]
    exact ih
theorem rSum_den (l : List UInt8) (o : Own) (hl : l.length ≤ 2 ^ 40) (h : H) : D n_warrantorref03_Sum [BL l o] h = some (.ret (w32 (crcB l)), h) := by
  have hm : D n_warrantorref03_More [.int .u32 0, BL l] [] = some (.ret (w32 (crcB l)), []) := by
    refine warrantorref03_More.den (l.length + 1) (by simp) (h' := []) ?_ rfl rfl
    rw [warrantorref03_More.f_eq (warrantorref03_More.fx _)]
    rw [show (.int .u32 0 : AV) = w32 0#32 from rfl]
    simp only [sub_all, bind_some']
    exact rmore_loop (warrantorref03_More.fx _) [] l hl l.length 0 (l.length + 1) _ (by omega) (by omega)
  refine warrantorref03_Sum.den 0 (by simp) (h' := []) ?_ rfl rfl
  rw [warrantorref03_Sum.f_eq (warrantorref03_Sum.fx 0)]
  simp only [canon_int, BL_canon, hm, bind_some', retOr_ret]
end Go.Proofs.YtdlnkfghgbddhaaGreat
