import Derived.Test.YtdlnkfghgbddhaaGreatPJExt
import Derived.Test.YtdlnkfghgbddhaaGreatVa5
set_option linter.all false
open Go Go.Ve Go.Proofs
namespace Go.Proofs.YtdlnkfghgbddhaaGreat
set_option maxRecDepth 100000
set_option linter.all false
theorem leb_loop {J : Jn (AEnd × H)} {k : Nat} (hJ : leb_Put.F D k J) (h : H) : ∀ (m n : Nat) (acc : List UInt8), n < 128 ^ (m + 1) → n < 2 ^ 64 → acc.length + m ≤ 1000000 →
    leb_Put.l0 J (m + 1) (.int .u64 n) (BL acc (.own 1)) h = some (.ret (BL (acc ++ lebB n) (.own 1)), h) := by
  intro m
  induction m with
  | zero =>
    intro n acc hn _ ha
    rw [leb_Put.l0_eq hJ, lebB_small (by omega)]
    have a1 := BL_app (l := acc) (l' := [UInt8.ofNat n]) (o := .own 1) (o' := .cap) (owned := true) (h := h) rfl (by simp; omega)
    simp only [bin_geq, bind_some', decide_eq_false (show ¬ ((n : Int) ≥ 128) by omega), condV_false, cv_u8, row1, a1]
  | succ m ih =>
    intro n acc hn h64 ha
    rw [leb_Put.l0_eq hJ]
    by_cases hs : n < 128
    · rw [lebB_small hs]
      have a1 := BL_app (l := acc) (l' := [UInt8.ofNat n]) (o := .own 1) (o' := .cap) (owned := true) (h := h) rfl (by simp; omega)
      simp only [bin_geq, bind_some', decide_eq_false (show ¬ ((n : Int) ≥ 128) by omega), condV_false, cv_u8, row1, a1]
    · rw [lebB_big hs]
      have a1 := BL_app (l := acc) (l' := [UInt8.ofNat (n % 128 + 128)]) (o := .own 1) (o' := .cap) (owned := true) (h := h) rfl (by simp; omega)
      have e : (UInt8.ofNat n).toNat % 128 = n % 128 := by rw [UInt8.toNat_ofNat']; omega
      have sh := shr_u64 (n := n) (k := 7) (by decide)
      have ih' := ih (n / 128) (acc ++ [UInt8.ofNat (n % 128 + 128)]) (Nat.div_lt_of_lt_mul (by rw [Nat.mul_comm, ← Nat.pow_succ]; exact hn)) (by omega) (by simp only [List.length_append, List.length_cons, List.length_nil]; omega)
      rw [List.append_assoc] at ih'
      simp only [bin_geq, bind_some', decide_eq_true (show ((n : Int) ≥ 128) by omega), condV_true, cv_u8, or_128, e, row1, a1]
      rw [show (.int .u64 7 : AV) = .int .u64 ((7 : Nat) : Int) from rfl, sh]
      exact ih'
theorem leb_Put_den (n : Nat) (hn : n < 2 ^ 64) (h : H) : D n_leb_Put [.int .u64 n] h = some (.ret (BL (lebB n) (.own 1)), h) := by
  refine leb_Put.den 10 (by simp) (h' := []) ?_ (by simp [AV.pure]) rfl
  rw [leb_Put.f_eq (leb_Put.fx 10)]
  have m1 : mkSlice 1 1 [.int .u8 0] true ([] : H) (.int .i64 0) (.int .i64 10) = some (BL [] (.own 1), []) := rfl
  simp only [m1, bind_some']
  have := leb_loop (leb_Put.fx 10) [] 9 n [] (by omega) hn (by simp)
  rw [List.nil_append] at this
  exact this
theorem rleb_loop {J : Jn (AEnd × H)} {k : Nat} (hJ : ref01_Put.F D k J) (h : H) : ∀ (m n : Nat) (acc : List UInt8) (o : Own), mayApp o 1 true = true → n < 128 ^ (m + 1) → n < 2 ^ 64 → acc.length + m ≤ 1000000 →
    ref01_Put.l0 J (m + 1) (.int .u64 n) (BL acc o) h = some (.ret (BL (acc ++ lebB n) (.own 1)), h) := by
  intro m
  induction m with
  | zero =>
    intro n acc o ho hn _ ha
    rw [ref01_Put.l0_eq hJ, lebB_small (by omega)]
    have a1 := BL_app (l := acc) (l' := [UInt8.ofNat n]) (o' := .cap) (h := h) ho (by simp; omega)
    simp only [bin_geq, bind_some', decide_eq_false (show ¬ ((n : Int) ≥ 128) by omega), condV_false, cv_u8, row1, a1]
  | succ m ih =>
    intro n acc o ho hn h64 ha
    rw [ref01_Put.l0_eq hJ]
    by_cases hs : n < 128
    · rw [lebB_small hs]
      have a1 := BL_app (l := acc) (l' := [UInt8.ofNat n]) (o' := .cap) (h := h) ho (by simp; omega)
      simp only [bin_geq, bind_some', decide_eq_false (show ¬ ((n : Int) ≥ 128) by omega), condV_false, cv_u8, row1, a1]
    · rw [lebB_big hs]
      have a1 := BL_app (l := acc) (l' := [UInt8.ofNat (n % 128 + 128)]) (o' := .cap) (h := h) ho (by simp; omega)
      have ih' := ih (n / 128) (acc ++ [UInt8.ofNat (n % 128 + 128)]) (.own 1) rfl (Nat.div_lt_of_lt_mul (by rw [Nat.mul_comm, ← Nat.pow_succ]; exact hn)) (by omega) (by simp only [List.length_append, List.length_cons, List.length_nil]; omega)
      rw [List.append_assoc] at ih'
      have e1 : bin .rem (.int .u64 (n : Int)) (.int .u64 128) = some (.int .u64 ((n % 128 : Nat) : Int)) := by rw [bin_rem, if_neg (by decide)]; rfl
      have e2 : bin .add (.int .u64 ((n % 128 : Nat) : Int)) (.int .u64 128) = some (.int .u64 ((n % 128 + 128 : Nat) : Int)) := by rw [bin_add, wrap_u64 (by omega) (by omega)]; rfl
      have e3 : bin .quo (.int .u64 (n : Int)) (.int .u64 128) = some (.int .u64 ((n / 128 : Nat) : Int)) := by rw [bin_quo, if_neg (by decide), show (n : Int).tdiv 128 = ((n / 128 : Nat) : Int) from rfl, wrap_u64 (by omega) (by omega)]
      simp only [bin_geq, bind_some', decide_eq_true (show ((n : Int) ≥ 128) by omega), condV_true, e1, e2, e3, cv_u8, row1, a1]
      exact ih'
theorem rPut_den (n : Nat) (hn : n < 2 ^ 64) (h : H) : D n_warrantorref01_Put [.int .u64 n] h = some (.ret (BL (lebB n) (.own 1)), h) := by
  refine ref01_Put.den 10 (by simp) (h' := []) ?_ (by simp [AV.pure]) rfl
  rw [ref01_Put.f_eq (ref01_Put.fx 10)]
  have := rleb_loop (ref01_Put.fx 10) [] 9 n [] .cap rfl (by omega) hn (by simp)
  rw [List.nil_append] at this
  exact this
end Go.Proofs.YtdlnkfghgbddhaaGreat

open Go Go.Ve Go.Proofs
namespace Go.Proofs.YtdlnkfghgbddhaaGreat
set_option maxRecDepth 100000
set_option linter.all false
theorem bits_step (c : BitVec 32) {R : Type} (k : AV → Option R) :
    ((bin .shr (w32 c) (.int .u64 1)).bind fun v2 => (bin .and (w32 c) (.int .u32 1)).bind fun v3 => (unOp .neg v3).bind fun v4 => (bin .and (.int .u32 2197175160) v4).bind fun v5 => (bin .xor v2 v5).bind k) = k (w32 (crcS c)) := by
  have h1 : bin .shr (w32 c) (.int .u64 1) = some (w32 (c >>> 1)) := by
    have := shr_u32 (n := c.toNat) (k := 1) (kk := .u64) (by decide)
    rw [Nat.pow_one, shr1_32] at this
    exact this
  have h2 := and_32 c 1#32
  have h3 := neg_32 (c &&& 1#32)
  have h4 := and_32 2197175160#32 (-(c &&& 1#32))
  have h5 := xor_32 (c >>> 1) (2197175160#32 &&& -(c &&& 1#32))
  rw [show (.int .u32 1 : AV) = w32 1#32 from rfl, show (.int .u32 2197175160 : AV) = w32 2197175160#32 from rfl, h1, h2]
  simp only [bind_some', h3, h4, h5]
  rw [poly_and]; rfl
theorem bits_loop {J : Jn (AEnd × H)} {k : Nat} (hJ : crc_bits.F D k J) (h : H) (n : Nat) (hn : n ≤ 1000) : ∀ (d i m : Nat) (c : BitVec 32), i + d = n → d < m →
    crc_bits.l0 J m (w32 c) (.int .i64 n) (.int .i64 i) h = some (.ret (w32 (crcN d c)), h)
  | 0, i, m + 1, c, hi, _ => by
    rw [crc_bits.l0_eq hJ]
    simp only [bin_lss, bind_some', decide_eq_false (show ¬ ((i : Int) < n) by omega), condV_false, copy_int, crcN]
  | d + 1, i, m + 1, c, hi, hm => by
    have ih := bits_loop hJ h n hn d (i + 1) m (crcS c) (by omega) (by omega)
    rw [crc_bits.l0_eq hJ]
    simp only [bin_lss, bind_some', decide_eq_true (show ((i : Int) < n) by omega), condV_true]
    rw [bits_step]
    simp only [bin_add, wrap_i64 (show -9223372036854775808 ≤ (i : Int) + 1 by omega) (by omega), bind_some']
    exact ih
theorem bits_den (c : BitVec 32) (n : Nat) (hn : n ≤ 1000) (h : H) : D n_crc_bits [w32 c, .int .i64 n] h = some (.ret (w32 (crcN n c)), h) := by
  refine crc_bits.den 1001 (by simp) (h' := []) ?_ rfl rfl
  rw [crc_bits.f_eq (crc_bits.fx 1001)]
  exact bits_loop (crc_bits.fx 1001) [] n hn n 0 1001 c (by omega) (by omega)
theorem more_loop {J : Jn (AEnd × H)} {k : Nat} (hJ : crc_More.F D k J) (h : H) (l : List UInt8) (hl : l.length ≤ 2 ^ 40) : ∀ (d i m : Nat) (c : BitVec 32), i + d = l.length → d < m →
    crc_More.l0 J m (w32 c) (BL l) (.int .i64 l.length) (.int .i64 i) h = some (.ret (w32 (~~~ crcL c (l.drop i))), h)
  | 0, i, m + 1, c, hi, _ => by
    rw [crc_More.l0_eq hJ]
    have e : l.drop i = [] := List.drop_of_length_le (by omega)
    simp only [bin_lss, bind_some', decide_eq_false (show ¬ ((i : Int) < l.length) by omega), condV_false, not_32, copy_int, e, crcL]
  | d + 1, i, m + 1, c, hi, hm => by
    have hil : i < l.length := by omega
    have ih := more_loop hJ h l hl d (i + 1) m (crcN 8 (c ^^^ byte32 l[i])) (by omega) (by omega)
    rw [crc_More.l0_eq hJ, List.drop_eq_getElem_cons hil]
    have hb : cvInt .u32 (bv l[i]) = some (w32 (byte32 l[i])) := by
      have := l[i].toNat_lt
      rw [cvInt_int]
      congr 1
    have h8 := bits_den (c ^^^ byte32 l[i]) 8 (by decide) h
    simp only [bin_lss, bind_some', decide_eq_true (show ((i : Int) < l.length) by omega), condV_true, BL_at hil, ldCell_rptr, byteRow_0, hb, xor_32, canon_int]
    rw [show (.int .i64 8 : AV) = .int .i64 ((8 : Nat) : Int) from rfl, h8]
    simp only [bind_some', retOr_ret, bin_add, wrap_i64 (show -9223372036854775808 ≤ (i : Int) + 1 by omega) (by omega), crcL]
    exact ih
theorem crcSum_den (l : List UInt8) (o : Own) (hl : l.length ≤ 2 ^ 40) (h : H) : D n_crc_Sum [BL l o] h = some (.ret (w32 (crcB l)), h) := by
  have hm : D n_crc_More [.int .u32 0, BL l] [] = some (.ret (w32 (crcB l)), []) := by
    refine crc_More.den (l.length + 1) (by simp) (h' := []) ?_ rfl rfl
    rw [crc_More.f_eq (crc_More.fx _)]
    rw [show (.int .u32 0 : AV) = w32 0#32 from rfl]
    simp only [not_32, bind_some', BL_len]
    exact more_loop (crc_More.fx _) [] l hl l.length 0 (l.length + 1) _ (by omega) (by omega)
  refine crc_Sum.den 0 (by simp) (h' := []) ?_ rfl rfl
  rw [crc_Sum.f_eq (crc_Sum.fx 0)]
  simp only [canon_int, BL_canon, hm, bind_some', retOr_ret]
theorem whole_den (l : List UInt8) (o : Own) (c : BitVec 32) (hl : l.length ≤ 2 ^ 40) (h : H) : D n_crc_Whole [BL l o, w32 c] h = some (.ret (.bool (decide (crcB l = c))), h) := by
  refine crc_Whole.den 0 (by simp) (h' := []) ?_ rfl rfl
  rw [crc_Whole.f_eq (crc_Whole.fx 0)]
  have e : decide (((crcB l).toNat : Int) = (c.toNat : Int)) = decide (crcB l = c) := by
    congr 1
    exact propext ⟨fun h => BitVec.eq_of_toNat_eq (by omega), fun h => by rw [h]⟩
  simp only [BL_canon, crcSum_den l _ hl, bind_some', retOr_ret, bin_eql, e, copy_bool]
theorem rbit_den (c x : BitVec 32) (h : H) : D n_warrantorref03_bit [w32 c, w32 x] h = some (.ret (w32 ((c >>> 1) ^^^ (if c.toNat % 2 ≠ x.toNat % 2 then 2197175160#32 else 0#32))), h) := by
  refine ref03_bit.den 0 (by simp) (h' := []) ?_ rfl rfl
  rw [ref03_bit.f_eq (ref03_bit.fx 0)]
  have e1 : ∀ c : BitVec 32, bin .rem (w32 c) (.int .u32 2) = some (.int .u32 ((c.toNat % 2 : Nat) : Int)) := fun c => by rw [bin_rem, if_neg (by decide)]; rfl
  have e2 : bin .quo (w32 c) (.int .u32 2) = some (w32 (c >>> 1)) := by
    rw [bin_quo, if_neg (by decide), show ((c.toNat : Int)).tdiv 2 = ((c.toNat / 2 : Nat) : Int) from rfl, shr1_32, wrap_32]
  simp only [e1, e2, bind_some', bin_neq]
  by_cases hc : c.toNat % 2 = x.toNat % 2
  · simp only [decide_eq_false (show ¬ (((c.toNat % 2 : Nat) : Int) ≠ ((x.toNat % 2 : Nat) : Int)) by omega), condV_false, copy_int, if_neg (show ¬ (c.toNat % 2 ≠ x.toNat % 2) by omega), BitVec.xor_zero]
  · have hx := xor_32 (c >>> 1) 2197175160#32
    simp only [decide_eq_true (show (((c.toNat % 2 : Nat) : Int) ≠ ((x.toNat % 2 : Nat) : Int)) by omega), condV_true, if_pos (show (c.toNat % 2 ≠ x.toNat % 2) by omega)]
    rw [show (.int .u32 2197175160 : AV) = w32 2197175160#32 from rfl, hx]
    simp only [bind_some', copy_int]
theorem rtake_loop {J : Jn (AEnd × H)} {k : Nat} (hJ : ref03_take.F D k J) (h : H) : ∀ (d i m : Nat) (c x : BitVec 32), i + d = 8 → d < m → x.toNat < 2 ^ d →
    ref03_take.l0 J m (w32 c) (w32 x) (.int .i64 i) h = some (.ret (w32 (crcN d (c ^^^ x))), h)
  | 0, i, m + 1, c, x, hi, _, hx => by
    rw [ref03_take.l0_eq hJ]
    have : x = 0#32 := BitVec.eq_of_toNat_eq (by simpa using hx)
    subst this
    simp only [bin_lss, bind_some', decide_eq_false (show ¬ ((i : Int) < 8) by omega), condV_false, copy_int, crcN, BitVec.xor_zero]
  | d + 1, i, m + 1, c, x, hi, hm, hx => by
    rw [ref03_take.l0_eq hJ]
    have ih := rtake_loop hJ h d (i + 1) m ((c >>> 1) ^^^ (if c.toNat % 2 ≠ x.toNat % 2 then 2197175160#32 else 0#32)) (x >>> 1) (by omega) (by omega) (by rw [← shr1_32'] ; omega)
    have e2 : bin .quo (w32 x) (.int .u32 2) = some (w32 (x >>> 1)) := by
      rw [bin_quo, if_neg (by decide), show ((x.toNat : Int)).tdiv 2 = ((x.toNat / 2 : Nat) : Int) from rfl, shr1_32, wrap_32]
    rw [← crcS_xor] at ih
    simp only [bin_lss, bind_some', decide_eq_true (show ((i : Int) < 8) by omega), condV_true, canon_int, rbit_den, retOr_ret, e2, bin_add, wrap_i64 (show -9223372036854775808 ≤ (i : Int) + 1 by omega) (by omega), crcN]
    exact ih
theorem rtake_den (c : BitVec 32) (b : UInt8) (h : H) : D n_warrantorref03_take [w32 c, bv b] h = some (.ret (w32 (crcN 8 (c ^^^ byte32 b))), h) := by
  refine ref03_take.den 9 (by simp) (h' := []) ?_ rfl rfl
  rw [ref03_take.f_eq (ref03_take.fx 9)]
  have := b.toNat_lt
  have hb : cvInt .u32 (bv b) = some (w32 (byte32 b)) := by
    rw [cvInt_int]
    congr 1
  simp only [hb, bind_some']
  exact rtake_loop (ref03_take.fx 9) [] 8 0 9 c (byte32 b) (by omega) (by omega) (by rw [byte32, BitVec.toNat_ofNat]; omega)
theorem rmore_loop {J : Jn (AEnd × H)} {k : Nat} (hJ : ref03_More.F D k J) (h : H) (l : List UInt8) (hl : l.length ≤ 2 ^ 40) : ∀ (d i m : Nat) (c : BitVec 32), i + d = l.length → d < m →
    ref03_More.l0 J m (BL l) (w32 c) (.int .i64 i) h = some (.ret (w32 (~~~ crcL c (l.drop i))), h)
  | 0, i, m + 1, c, hi, _ => by
    rw [ref03_More.l0_eq hJ]
    have e : l.drop i = [] := List.drop_of_length_le (by omega)
    simp only [BL_len, bin_lss, bind_some', decide_eq_false (show ¬ ((i : Int) < l.length) by omega), condV_false, sub_all, copy_int, e, crcL]
  | d + 1, i, m + 1, c, hi, hm => by
    have hil : i < l.length := by omega
    have ih := rmore_loop hJ h l hl d (i + 1) m (crcN 8 (c ^^^ byte32 l[i])) (by omega) (by omega)
    rw [ref03_More.l0_eq hJ, List.drop_eq_getElem_cons hil]
    simp only [BL_len, bin_lss, bind_some', decide_eq_true (show ((i : Int) < l.length) by omega), condV_true, BL_at hil, ldCell_rptr, byteRow_0, canon_int, rtake_den, retOr_ret, bin_add, wrap_i64 (show -9223372036854775808 ≤ (i : Int) + 1 by omega) (by omega), crcL]
    exact ih
theorem rSum_den (l : List UInt8) (o : Own) (hl : l.length ≤ 2 ^ 40) (h : H) : D n_warrantorref03_Sum [BL l o] h = some (.ret (w32 (crcB l)), h) := by
  have hm : D n_warrantorref03_More [.int .u32 0, BL l] [] = some (.ret (w32 (crcB l)), []) := by
    refine ref03_More.den (l.length + 1) (by simp) (h' := []) ?_ rfl rfl
    rw [ref03_More.f_eq (ref03_More.fx _)]
    rw [show (.int .u32 0 : AV) = w32 0#32 from rfl]
    simp only [sub_all, bind_some']
    exact rmore_loop (ref03_More.fx _) [] l hl l.length 0 (l.length + 1) _ (by omega) (by omega)
  refine ref03_Sum.den 0 (by simp) (h' := []) ?_ rfl rfl
  rw [ref03_Sum.f_eq (ref03_Sum.fx 0)]
  simp only [canon_int, BL_canon, hm, bind_some', retOr_ret]
end Go.Proofs.YtdlnkfghgbddhaaGreat

open Go Go.Ve Go.Proofs
namespace Go.Proofs.YtdlnkfghgbddhaaGreat
set_option maxRecDepth 100000
set_option linter.all false
abbrev G3 (r : Nat × Nat × Nat) : AV := .tuple [.int .u64 r.1, .int .i64 r.2.1, .int .i64 r.2.2]
theorem get_j0 {J : Jn (AEnd × H)} {k : Nat} (hJ : leb_Get.F D k J) (h : H) (l : List UInt8) (m n i : Nat) (hi : i ≤ 9) (hil : i < l.length) (hl : l.length ≤ 2 ^ 40) (hn : n < 128 ^ i) (h9 : i = 9 → l[i].toNat ≤ 1) (r : Nat × Nat × Nat)
    (ih : ¬ l[i].toNat < 128 → leb_Get.l0 J m (.int .u64 ((n + 128 ^ i * (l[i].toNat % 128) : Nat) : Int)) (BL l) (.int .i64 l.length) (.int .i64 ((i + 1 : Nat) : Int)) h = some (.ret (G3 r), h)) :
    leb_Get.j0 J m (.int .u64 n) (.int .i64 i) (bv l[i]) (BL l) (.int .i64 l.length) (.int .i64 i) h = some (.ret (G3 (if l[i].toNat < 128 then (n + 128 ^ i * l[i].toNat, i + 1, 0) else r)), h) := by
  rw [leb_Get.j0_eq hJ]
  have hb := l[i].toNat_lt
  have p7 : (128 : Nat) ^ i = 2 ^ (7 * i) := by rw [show (128 : Nat) = 2 ^ 7 from rfl, ← Nat.pow_mul]
  have pb : l[i].toNat % 128 * 2 ^ (7 * i) + n < 2 ^ 64 := by
    rw [← p7]
    rcases Nat.lt_or_ge i 9 with h8 | h8
    · have e1 : (128 : Nat) ^ i ≤ 128 ^ 8 := Nat.pow_le_pow_right (by decide) (by omega)
      have e2 : l[i].toNat % 128 * 128 ^ i ≤ 127 * 128 ^ 8 := Nat.mul_le_mul (by omega) e1
      omega
    · have e : i = 9 := by omega
      have := h9 e
      subst e
      have e2 : l[9].toNat % 128 * 128 ^ 9 ≤ 1 * 128 ^ 9 := Nat.mul_le_mul_right _ (by omega)
      omega
  have c1 : cvInt .u64 (.int .u8 ((l[i].toNat % 128 : Nat) : Int)) = some (.int .u64 ((l[i].toNat % 128 : Nat) : Int)) := by rw [cvInt_int, wrap_u64 (by omega) (by omega)]
  have c2 : bin .mul (.int .i64 7) (.int .i64 (i : Int)) = some (.int .i64 ((7 * i : Nat) : Int)) := by rw [bin_mul, wrap_i64 (by omega) (by omega)]; rfl
  have c3 := shl_u64 (a := l[i].toNat % 128) (k := 7 * i) (kk := .i64) (by omega) (by omega)
  have c4 := or_add (n := n) (a := l[i].toNat % 128) (k := 7 * i) (by rw [← p7]; exact hn) pb
  rw [← p7] at c4
  have c5 : bin .add (.int .i64 (i : Int)) (.int .i64 1) = some (.int .i64 ((i + 1 : Nat) : Int)) := by rw [bin_add, wrap_i64 (by omega) (by omega)]; rfl
  simp only [and_not_128, bind_some', c1, c2, c3]
  rw [← p7, c4]
  simp only [bind_some', bin_lss, c5]
  by_cases hs : l[i].toNat < 128
  · simp only [decide_eq_true (show ((l[i].toNat : Int) < 128) by omega), condV_true, copy_int, if_pos hs, Nat.mod_eq_of_lt hs]
    rfl
  · simp only [decide_eq_false (show ¬ ((l[i].toNat : Int) < 128) by omega), condV_false, if_neg hs]
    exact ih hs
theorem get_loop {J : Jn (AEnd × H)} {k : Nat} (hJ : leb_Get.F D k J) (h : H) (l : List UInt8) (hl : l.length ≤ 2 ^ 40) : ∀ (d i m n : Nat), i + d = l.length → d < m → i ≤ 9 ∨ d = 0 → n < 128 ^ i →
    leb_Get.l0 J m (.int .u64 n) (BL l) (.int .i64 l.length) (.int .i64 i) h = some (.ret (G3 (lebGo i n (l.drop i))), h)
  | 0, i, m + 1, n, hi, _, _, _ => by
    rw [leb_Get.l0_eq hJ, List.drop_of_length_le (by omega)]
    simp only [bin_lss, bind_some', decide_eq_false (show ¬ ((i : Int) < l.length) by omega), condV_false, lebGo]
    rfl
  | d + 1, i, m + 1, n, hi, hm, h9, hn => by
    have hil : i < l.length := by omega
    have h9 : i ≤ 9 := by omega
    have hb := l[i].toNat_lt
    rw [leb_Get.l0_eq hJ, List.drop_eq_getElem_cons hil]
    simp only [bin_lss, bind_some', decide_eq_true (show ((i : Int) < l.length) by omega), condV_true, BL_at hil, ldCell_rptr, byteRow_0, bin_eql, bin_gtr, lebGo]
    have good : ¬ ((i = 9 ∧ 1 < l[i].toNat) ∨ (l[i].toNat = 0 ∧ 0 < i)) → leb_Get.j1 J m (.int .u64 n) (.int .i64 i) (bv l[i]) (BL l) (.int .i64 l.length) (.int .i64 i) (.bool false) h = some (.ret (G3 (if l[i].toNat < 128 then (n + 128 ^ i * l[i].toNat, i + 1, 0) else lebGo (i + 1) (n + 128 ^ i * (l[i].toNat % 128)) (l.drop (i + 1)))), h) := by
      intro hg
      rw [leb_Get.j1_eq hJ]
      simp only [condV_false]
      refine get_j0 hJ h l m n i h9 hil hl hn (fun e => by omega) _ fun hs => ?_
      refine get_loop hJ h l hl d (i + 1) m _ (by omega) (by omega) (.inl (by omega)) ?_
      have e1 : 128 ^ i * (l[i].toNat % 128) ≤ 128 ^ i * 127 := Nat.mul_le_mul_left _ (by omega)
      rw [Nat.pow_succ]; omega
    have bad : leb_Get.j1 J m (.int .u64 n) (.int .i64 i) (bv l[i]) (BL l) (.int .i64 l.length) (.int .i64 i) (.bool true) h = some (.ret (G3 (0, 0, 11)), h) := by
      rw [leb_Get.j1_eq hJ]
      simp only [condV_true]
      rfl
    by_cases hx : (i = 9 ∧ 1 < l[i].toNat) ∨ (l[i].toNat = 0 ∧ 0 < i)
    · rw [if_pos hx]
      by_cases e9 : i = 9
      · simp only [decide_eq_true (show ((i : Int) = 9) by omega), condV_true]
        by_cases e1 : 1 < l[i].toNat
        · simp only [decide_eq_true (show ((l[i].toNat : Int) > 1) by omega), condV_true, bad]
        · simp only [decide_eq_false (show ¬ ((l[i].toNat : Int) > 1) by omega), condV_false, decide_eq_true (show ((i : Int) > 0) by omega), condV_true, decide_eq_true (show ((l[i].toNat : Int) = 0) by omega), bad]
      · simp only [decide_eq_false (show ¬ ((i : Int) = 9) by omega), condV_false, decide_eq_true (show ((i : Int) > 0) by omega), condV_true, decide_eq_true (show ((l[i].toNat : Int) = 0) by omega), bad]
    · rw [if_neg hx]
      have hg := good hx
      by_cases e9 : i = 9
      · simp only [decide_eq_true (show ((i : Int) = 9) by omega), condV_true, decide_eq_false (show ¬ ((l[i].toNat : Int) > 1) by omega), condV_false, decide_eq_true (show ((i : Int) > 0) by omega), decide_eq_false (show ¬ ((l[i].toNat : Int) = 0) by omega), hg]
      · simp only [decide_eq_false (show ¬ ((i : Int) = 9) by omega), condV_false]
        by_cases e0 : 0 < i
        · simp only [decide_eq_true (show ((i : Int) > 0) by omega), condV_true, decide_eq_false (show ¬ ((l[i].toNat : Int) = 0) by omega), hg]
        · simp only [decide_eq_false (show ¬ ((i : Int) > 0) by omega), condV_false, hg]
theorem leb_Get_den (l : List UInt8) (hl : l.length ≤ 2 ^ 40) (h : H) : D n_leb_Get [BL l] h = some (.ret (G3 (lebG l)), h) := by
  refine leb_Get.den (l.length + 1) (by simp) (h' := []) ?_ rfl rfl
  rw [leb_Get.f_eq (leb_Get.fx _)]
  simp only [BL_len, bind_some']
  exact get_loop (leb_Get.fx _) [] l hl l.length 0 (l.length + 1) 0 (by omega) (by omega) (.inl (by omega)) (by simp)
theorem rget_j0 {J : Jn (AEnd × H)} {k : Nat} (hJ : ref01_Get.F D k J) (h : H) (l : List UInt8) (m n i : Nat) (hi : i ≤ 9) (hil : i < l.length) (hl : l.length ≤ 2 ^ 40) (hn : n < 128 ^ i) (h9 : i = 9 → l[i].toNat ≤ 1) (r : Nat × Nat × Nat)
    (ih : ¬ l[i].toNat < 128 → ref01_Get.l0 J m (BL l) (.int .u64 ((n + 128 ^ i * (l[i].toNat % 128) : Nat) : Int)) (.int .u64 ((128 ^ (i + 1) : Nat) : Int)) (.int .i64 ((i + 1 : Nat) : Int)) h = some (.ret (G3 r), h)) :
    ref01_Get.j0 J m (BL l) (.int .u64 n) (.int .u64 ((128 ^ i : Nat) : Int)) (.int .i64 i) (.int .u64 (l[i].toNat : Int)) h = some (.ret (G3 (if l[i].toNat < 128 then (n + 128 ^ i * l[i].toNat, i + 1, 0) else r)), h) := by
  rw [ref01_Get.j0_eq hJ]
  have hb := l[i].toNat_lt
  have pb : 128 ^ i * (l[i].toNat % 128) + n < 2 ^ 64 := by
    rcases Nat.lt_or_ge i 9 with h8 | h8
    · have e1 : (128 : Nat) ^ i ≤ 128 ^ 8 := Nat.pow_le_pow_right (by decide) (by omega)
      have e2 : 128 ^ i * (l[i].toNat % 128) ≤ 128 ^ 8 * 127 := Nat.mul_le_mul e1 (by omega)
      omega
    · have e : i = 9 := by omega
      have := h9 e
      subst e
      have e2 : 128 ^ 9 * (l[9].toNat % 128) ≤ 128 ^ 9 * 1 := Nat.mul_le_mul_left _ (by omega)
      omega
  have c1 : bin .rem (.int .u64 (l[i].toNat : Int)) (.int .u64 128) = some (.int .u64 ((l[i].toNat % 128 : Nat) : Int)) := by rw [bin_rem, if_neg (by decide)]; rfl
  have c2 : bin .mul (.int .u64 ((128 ^ i : Nat) : Int)) (.int .u64 ((l[i].toNat % 128 : Nat) : Int)) = some (.int .u64 ((128 ^ i * (l[i].toNat % 128) : Nat) : Int)) := by
    rw [bin_mul, show (((128 ^ i : Nat) : Int) * ((l[i].toNat % 128 : Nat) : Int)) = ((128 ^ i * (l[i].toNat % 128) : Nat) : Int) by rw [Int.natCast_mul], wrap_u64 (by omega) (by omega)]
  have c3 : bin .add (.int .u64 (n : Int)) (.int .u64 ((128 ^ i * (l[i].toNat % 128) : Nat) : Int)) = some (.int .u64 ((n + 128 ^ i * (l[i].toNat % 128) : Nat) : Int)) := by
    rw [bin_add, show ((n : Int) + ((128 ^ i * (l[i].toNat % 128) : Nat) : Int)) = ((n + 128 ^ i * (l[i].toNat % 128) : Nat) : Int) by rw [Int.natCast_add], wrap_u64 (by omega) (by omega)]
  have c5 : bin .add (.int .i64 (i : Int)) (.int .i64 1) = some (.int .i64 ((i + 1 : Nat) : Int)) := by rw [bin_add, wrap_i64 (by omega) (by omega)]; rfl
  simp only [c1, bind_some', c2, c3, bin_lss, c5]
  by_cases hs : l[i].toNat < 128
  · simp only [decide_eq_true (show ((l[i].toNat : Int) < 128) by omega), condV_true, copy_int, if_pos hs, Nat.mod_eq_of_lt hs]
    rfl
  · have hi8 : i ≤ 8 := by omega
    have e1 : (128 : Nat) ^ i ≤ 128 ^ 8 := Nat.pow_le_pow_right (by decide) hi8
    have c6 : bin .mul (.int .u64 ((128 ^ i : Nat) : Int)) (.int .u64 128) = some (.int .u64 ((128 ^ (i + 1) : Nat) : Int)) := by
      rw [bin_mul, show (((128 ^ i : Nat) : Int) * 128) = ((128 ^ (i + 1) : Nat) : Int) by rw [Nat.pow_succ, Int.natCast_mul]; rfl, wrap_u64 (by omega) (by rw [Nat.pow_succ]; omega)]
    simp only [decide_eq_false (show ¬ ((l[i].toNat : Int) < 128) by omega), condV_false, if_neg hs, c6, bind_some']
    exact ih hs
theorem rget_loop {J : Jn (AEnd × H)} {k : Nat} (hJ : ref01_Get.F D k J) (h : H) (l : List UInt8) (hl : l.length ≤ 2 ^ 40) : ∀ (d i m n : Nat), i + d = l.length → d < m → i ≤ 9 ∨ d = 0 → n < 128 ^ i →
    ref01_Get.l0 J m (BL l) (.int .u64 n) (.int .u64 ((128 ^ i : Nat) : Int)) (.int .i64 i) h = some (.ret (G3 (lebGo i n (l.drop i))), h)
  | 0, i, m + 1, n, hi, _, _, _ => by
    rw [ref01_Get.l0_eq hJ, List.drop_of_length_le (by omega)]
    simp only [BL_len, bin_lss, bind_some', decide_eq_false (show ¬ ((i : Int) < l.length) by omega), condV_false, lebGo]
    rfl
  | d + 1, i, m + 1, n, hi, hm, h9, hn => by
    have hil : i < l.length := by omega
    have h9 : i ≤ 9 := by omega
    have hb := l[i].toNat_lt
    have cv : cvInt .u64 (bv l[i]) = some (.int .u64 (l[i].toNat : Int)) := by rw [cvInt_int, wrap_u64 (by omega) (by omega)]
    rw [ref01_Get.l0_eq hJ, List.drop_eq_getElem_cons hil]
    simp only [BL_len, bin_lss, bind_some', decide_eq_true (show ((i : Int) < l.length) by omega), condV_true, BL_at hil, ldCell_rptr, byteRow_0, cv, bin_eql, bin_gtr, lebGo]
    have good : ¬ ((i = 9 ∧ 1 < l[i].toNat) ∨ (l[i].toNat = 0 ∧ 0 < i)) → ref01_Get.j1 J m (BL l) (.int .u64 n) (.int .u64 ((128 ^ i : Nat) : Int)) (.int .i64 i) (.int .u64 (l[i].toNat : Int)) (.bool false) h = some (.ret (G3 (if l[i].toNat < 128 then (n + 128 ^ i * l[i].toNat, i + 1, 0) else lebGo (i + 1) (n + 128 ^ i * (l[i].toNat % 128)) (l.drop (i + 1)))), h) := by
      intro hg
      rw [ref01_Get.j1_eq hJ]
      simp only [condV_false]
      refine rget_j0 hJ h l m n i h9 hil hl hn (fun e => by omega) _ fun hs => ?_
      refine rget_loop hJ h l hl d (i + 1) m _ (by omega) (by omega) (.inl (by omega)) ?_
      have e1 : 128 ^ i * (l[i].toNat % 128) ≤ 128 ^ i * 127 := Nat.mul_le_mul_left _ (by omega)
      rw [Nat.pow_succ]; omega
    have bad : ref01_Get.j1 J m (BL l) (.int .u64 n) (.int .u64 ((128 ^ i : Nat) : Int)) (.int .i64 i) (.int .u64 (l[i].toNat : Int)) (.bool true) h = some (.ret (G3 (0, 0, 11)), h) := by
      rw [ref01_Get.j1_eq hJ]
      simp only [condV_true]
      rfl
    by_cases hx : (i = 9 ∧ 1 < l[i].toNat) ∨ (l[i].toNat = 0 ∧ 0 < i)
    · rw [if_pos hx]
      by_cases e9 : i = 9
      · simp only [decide_eq_true (show ((i : Int) = 9) by omega), condV_true]
        by_cases e1 : 1 < l[i].toNat
        · simp only [decide_eq_true (show ((l[i].toNat : Int) > 1) by omega), condV_true, bad]
        · simp only [decide_eq_false (show ¬ ((l[i].toNat : Int) > 1) by omega), condV_false, decide_eq_true (show ((i : Int) > 0) by omega), condV_true, decide_eq_true (show ((l[i].toNat : Int) = 0) by omega), bad]
      · simp only [decide_eq_false (show ¬ ((i : Int) = 9) by omega), condV_false, decide_eq_true (show ((i : Int) > 0) by omega), condV_true, decide_eq_true (show ((l[i].toNat : Int) = 0) by omega), bad]
    · rw [if_neg hx]
      have hg := good hx
      by_cases e9 : i = 9
      · simp only [decide_eq_true (show ((i : Int) = 9) by omega), condV_true, decide_eq_false (show ¬ ((l[i].toNat : Int) > 1) by omega), condV_false, decide_eq_false (show ¬ ((l[i].toNat : Int) = 0) by omega), hg]
      · simp only [decide_eq_false (show ¬ ((i : Int) = 9) by omega), condV_false]
        by_cases e0 : l[i].toNat = 0
        · simp only [decide_eq_true (show ((l[i].toNat : Int) = 0) by omega), condV_true, decide_eq_false (show ¬ ((i : Int) > 0) by omega), hg]
        · simp only [decide_eq_false (show ¬ ((l[i].toNat : Int) = 0) by omega), condV_false, hg]
theorem rGet_den (l : List UInt8) (hl : l.length ≤ 2 ^ 40) (h : H) : D n_warrantorref01_Get [BL l] h = some (.ret (G3 (lebG l)), h) := by
  refine ref01_Get.den (l.length + 1) (by simp) (h' := []) ?_ rfl rfl
  rw [ref01_Get.f_eq (ref01_Get.fx _)]
  exact rget_loop (ref01_Get.fx _) [] l hl l.length 0 (l.length + 1) 0 (by omega) (by omega) (.inl (by omega)) (by simp)
end Go.Proofs.YtdlnkfghgbddhaaGreat

open Go Go.Ve Go.Proofs
namespace Go.Proofs.YtdlnkfghgbddhaaGreat
set_option maxRecDepth 100000
set_option linter.all false
theorem ptr_pen (id : Nat) : aeq Tryz.prog 20 84 (.ptr id 0) .nilPtr = some false := by kernel_rfl
theorem ptr_rd (id : Nat) : aeq Tryz.prog 20 90 (.ptr id 0) .nilPtr = some false := by kernel_rfl
theorem eqv_tf : eqv true (some false) = some (.bool true) := rfl
theorem eqv_ff : eqv false (some false) = some (.bool false) := rfl
def PenAt (h : H) (id : Nat) (b : List UInt8) : Prop := ∃ o, mayApp o 1 true = true ∧ h[id]? = some (.arr [BL b o] false)
theorem Keep.pen {ids : List Nat} {h h' : H} {id : Nat} {b : List UInt8} (k : Keep ids h h') (hr : PenAt h id b) (hn : id ∉ ids) : PenAt h' id b := hr.imp fun _ ho => ⟨ho.1, k.get ho.2 hn⟩
theorem PenAt.lt {h : H} {id : Nat} {b : List UInt8} (hr : PenAt h id b) : id < h.length := get_lt hr.choose_spec.2
theorem new_den (h : H) : ∃ h', D n_cur_New [] h = some (.ret (.ptr h.length 0), h') ∧ Keep [] h h' ∧ PenAt h' h.length [] := by
  refine ⟨h ++ [.arr [.list [] .cap] false], cur_New.den 1 ?_ rfl, .app, .cap, rfl, get_new⟩
  rw [cur_New.f_eq (cur_New.fx 1)]
  rw [show mkAgg [.list [] .cap] [] = some (.agg [.list [] .cap]) from rfl]
  simp only [bind_some', bx_agg (cs := [.list [] .cap]) rfl]
  rfl
theorem put_den (h : H) (id : Nat) (b l : List UInt8) (o : Own) (hp : PenAt h id b) (hl : b.length + l.length ≤ 2 ^ 40) : ∃ h', D n_cur_Pen_put [.ptr id 0, BL l o] h = some (.ret (.tuple []), h') ∧ Keep [id] h h' ∧ PenAt h' id (b ++ l) := by
  obtain ⟨o', ho, hp⟩ := hp
  have e1 := ldTake_list (off := 0) hp rfl
  have hp1 := get_set (y := .arr [AV.copy (BL b o')] false) hp
  refine ⟨_, cur_Pen_put.den 1 ?_ rfl, (Keep.set (by simp)).trans (.set (by simp)), .own 1, rfl, get_set hp1⟩
  rw [cur_Pen_put.f_eq (cur_Pen_put.fx 1)]
  simp only [ptr_pen, eqv_tf, bind_some', condV_true, nilOk_ptr, fAddr_ptr, e1, BL_app ho hl]
  have e2 := st_list (off := 0) (rows := (b ++ l).map byteRow) (o := .own 1) hp1 (by simp)
  rw [show (BL (b ++ l) (.own 1)) = .list ((b ++ l).map byteRow) (.own 1) from rfl]
  simp only [List.set_cons_zero] at e2 ⊢
  rw [e2]
  rfl
theorem penU_den (h : H) (id n : Nat) (b : List UInt8) (hp : PenAt h id b) (hn : n < 2 ^ 64) (hl : b.length + 10 ≤ 2 ^ 40) : ∃ h', D n_cur_Pen_U [.ptr id 0, .int .u64 n] h = some (.ret (.tuple []), h') ∧ Keep [id] h h' ∧ PenAt h' id (b ++ lebB n) := by
  have := lebB_10 hn
  obtain ⟨h', e, k, p⟩ := put_den h id b (lebB n) .no hp (by omega)
  refine ⟨h', cur_Pen_U.den 1 ?_ rfl, k, p⟩
  rw [cur_Pen_U.f_eq (cur_Pen_U.fx 1)]
  simp only [canon_int, leb_Put_den n hn, bind_some', retOr_ret, canon_ptr, BL_canon, e]
theorem penWord_den (h : H) (id n : Nat) (b : List UInt8) (hp : PenAt h id b) (hl : b.length + 10 ≤ 2 ^ 40) : ∃ h', D n_cur_Pen_Word [.ptr id 0, .int .u32 n] h = some (.ret (.tuple []), h') ∧ Keep [id] h h' ∧ PenAt h' id (b ++ wdB n) := by
  obtain ⟨h', e, k, p⟩ := put_den h id b (wdB n) .no hp (by simp [wdB]; omega)
  refine ⟨h', cur_Pen_Word.den 1 ?_ rfl, k, p⟩
  rw [cur_Pen_Word.f_eq (cur_Pen_Word.fx 1)]
  have s8 := shr_u32 (n := n) (k := 8) (kk := .u64) (by omega)
  have s16 := shr_u32 (n := n) (k := 16) (kk := .u64) (by omega)
  have s24 := shr_u32 (n := n) (k := 24) (kk := .u64) (by omega)
  rw [show (AV.int .u64 8) = .int .u64 ((8 : Nat) : Int) from rfl, show (AV.int .u64 16) = .int .u64 ((16 : Nat) : Int) from rfl, show (AV.int .u64 24) = .int .u64 ((24 : Nat) : Int) from rfl, s8, s16, s24]
  simp only [bind_some', cv_u8, row4, canon_ptr, BL_canon]
  rw [show [UInt8.ofNat n, UInt8.ofNat (n / 2 ^ 8), UInt8.ofNat (n / 2 ^ 16), UInt8.ofNat (n / 2 ^ 24)] = wdB n from rfl, e]
  simp only [bind_some', retOr_ret]
def txB (s : List UInt8) : List UInt8 := lebB s.length ++ s
theorem penText_den (h : H) (id : Nat) (b s : List UInt8) (hp : PenAt h id b) (hl : b.length + s.length + 20 ≤ 2 ^ 40) : ∃ h', D n_cur_Pen_Text [.ptr id 0, .str s] h = some (.ret (.tuple []), h') ∧ Keep [id] h h' ∧ PenAt h' id (b ++ txB s) := by
  have h10 := lebB_10 (n := s.length) (by omega)
  obtain ⟨h1, e1, k1, p1⟩ := penU_den h id s.length b hp (by omega) (by omega)
  obtain ⟨h2, e2, k2, p2⟩ := put_den h1 id (b ++ lebB s.length) s .no p1 (by simp; omega)
  refine ⟨h2, cur_Pen_Text.den 1 ?_ rfl, k1.trans k2, by rw [txB, ← List.append_assoc]; exact p2⟩
  rw [cur_Pen_Text.f_eq (cur_Pen_Text.fx 1)]
  simp only [lnStr_str, bind_some', cvInt_int, wrap_u64 (show (0 : Int) ≤ (s.length : Int) by omega) (show (s.length : Int) ≤ 18446744073709551615 by omega), canon_int, canon_ptr, e1, retOr_ret, BL_str, BL_canon, e2]
theorem penBytes_den (h : H) (id : Nat) (b : List UInt8) (hp : PenAt h id b) (hl : b.length ≤ 2 ^ 40) : D n_cur_Pen_Bytes [.ptr id 0] h = some (.ret (BL b (.own 1)), h) := by
  obtain ⟨o, ho, hp⟩ := hp
  refine cur_Pen_Bytes.den 1 ?_ rfl
  rw [cur_Pen_Bytes.f_eq (cur_Pen_Bytes.fx 1)]
  simp only [ptr_pen, eqv_ff, bind_some', condV_false, nilOk_ptr, fAddr_ptr, ld_at hp]
  rw [show ([BL b o])[0 + 0]? = some (BL b o) from rfl]
  simp only [bind_some', BL_canon, clone_byte b .no hl, retOr_ret]
theorem rNum_den (n : Nat) (hn : n < 2 ^ 63) (h : H) : D n_warrantorref02_Num [.int .i64 n] h = some (.ret (BL (lebB n) (.own 1)), h) := by
  refine ref02_Num.den 1 (by simp) (h' := []) ?_ (by simp [AV.pure]) rfl
  rw [ref02_Num.f_eq (ref02_Num.fx 1)]
  simp only [cvInt_int, bind_some', wrap_u64 (show (0 : Int) ≤ (n : Int) by omega) (show (n : Int) ≤ 18446744073709551615 by omega), canon_int, rPut_den n (by omega), retOr_ret]
theorem rWord_den (n : Nat) (hn : n < 2 ^ 32) (h : H) : D n_warrantorref02_Word [.int .u32 n] h = some (.ret (BL (wdB n) .cap), h) := by
  refine ref02_Word.den 1 (by simp) (h' := []) ?_ (by simp [AV.pure]) rfl
  rw [ref02_Word.f_eq (ref02_Word.fx 1)]
  have q (a b : Nat) (hb : b ≠ 0) (ha : a < 2 ^ 32) : bin .quo (.int .u32 (a : Int)) (.int .u32 (b : Int)) = some (.int .u32 ((a / b : Nat) : Int)) := by
    rw [bin_quo, if_neg (by omega)]
    have hd : a / b ≤ a := Nat.div_le_self a b
    have e := wrap_32 (BitVec.ofNat 32 (a / b))
    rw [BitVec.toNat_ofNat, Nat.mod_eq_of_lt (by omega)] at e
    rw [show ((a : Int).tdiv (b : Int)) = ((a / b : Nat) : Int) from rfl, e]
  have m (a b : Nat) (hb : b ≠ 0) : bin .rem (.int .u32 (a : Int)) (.int .u32 (b : Int)) = some (.int .u32 ((a % b : Nat) : Int)) := by
    rw [bin_rem, if_neg (by omega)]; rfl
  have u (a : Nat) : UInt8.ofNat (a % 256) = UInt8.ofNat a := by
    apply UInt8.toNat.inj
    rw [UInt8.toNat_ofNat', UInt8.toNat_ofNat']; omega
  rw [show (AV.int .u32 256) = .int .u32 ((256 : Nat) : Int) from rfl, show (AV.int .u32 65536) = .int .u32 ((65536 : Nat) : Int) from rfl, show (AV.int .u32 16777216) = .int .u32 ((16777216 : Nat) : Int) from rfl]
  have d1 : n / 256 ≤ n := Nat.div_le_self _ _
  have d2 : n / 65536 ≤ n := Nat.div_le_self _ _
  simp only [m _ _ (show 256 ≠ 0 by decide), q n _ (show 256 ≠ 0 by decide) hn, q n _ (show 65536 ≠ 0 by decide) hn, q n _ (show 16777216 ≠ 0 by decide) hn, bind_some', cv_u8, u, row4]
  rfl
theorem rText_den (s : List UInt8) (hl : s.length ≤ 2 ^ 38) (h : H) : D n_warrantorref02_Text [.str s] h = some (.ret (BL (txB s) (.own 1)), h) := by
  have h10 := lebB_10 (n := s.length) (by omega)
  refine ref02_Text.den 1 (by simp) (h' := []) ?_ (by simp [AV.pure]) rfl
  rw [ref02_Text.f_eq (ref02_Text.fx 1)]
  simp only [lnStr_str, cvInt_int, bind_some', wrap_u64 (show (0 : Int) ≤ (s.length : Int) by omega) (show (s.length : Int) ≤ 18446744073709551615 by omega), canon_int, rPut_den s.length (by omega), retOr_ret, BL_str, BL_app (l := lebB s.length) (l' := s) (o := .own 1) (o' := .own 1) (owned := true) rfl (by omega)]
  rfl
end Go.Proofs.YtdlnkfghgbddhaaGreat
