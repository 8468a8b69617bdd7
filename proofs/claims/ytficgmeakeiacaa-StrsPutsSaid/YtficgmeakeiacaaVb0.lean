import Derived.Test.YtficgmeakeiacaaP5Ext
import Derived.Test.YtficgmeakeiacaaVa5
set_option linter.all false
open Go Go.Ve Go.Proofs
namespace Go.Proofs.Ytficgmeakeiacaa
set_option maxRecDepth 100000
set_option linter.all false
theorem leb_loop {J : Jn (AEnd × H)} {k : Nat} (hJ : leb_Put.F D k J) (h : H) : ∀ (m n : Nat) (acc : List UInt8), n < 128 ^ (m + 1) → n < 2 ^ 64 → acc.length + m ≤ 1000000 →
    leb_Put.l0 J (m + 1) (.int .u64 n) (BL acc (.own 1)) h = some (.ret (BL (acc ++ lebB n) (.own 1)), h) := by
  intro m
  induction m with
  | zero =>
    intro n acc hn _ ha
    rw [leb_Put.l0_eq hJ, lebB_small (by omega)]
    have a1 := BL_app (l := acc) (l' := [UInt8.ofNat n]) (o := .own 1) (o' := .cap) (owned := true) (h := h) rfl (by simp; omega)
    simp only [bin_geq, bind_some', decide_eq_false (show ¬ ((n : Int) ≥ 128) by omega), condV_false, cv_u8, row1, a1]
  | succ m ih =>
    intro n acc hn h64 ha
    rw [leb_Put.l0_eq hJ]
    by_cases hs : n < 128
    · rw [lebB_small hs]
      have a1 := BL_app (l := acc) (l' := [UInt8.ofNat n]) (o := .own 1) (o' := .cap) (owned := true) (h := h) rfl (by simp; omega)
      simp only [bin_geq, bind_some', decide_eq_false (show ¬ ((n : Int) ≥ 128) by omega), condV_false, cv_u8, row1, a1]
    · rw [lebB_big hs]
      have a1 := BL_app (l := acc) (l' := [UInt8.ofNat (n % 128 + 128)]) (o := .own 1) (o' := .cap) (owned := true) (h := h) rfl (by simp; omega)
      have e : (UInt8.ofNat n).toNat % 128 = n % 128 := by rw [UInt8.toNat_ofNat']; omega
      have sh := shr_u64 (n := n) (k := 7) (by decide)
      have ih' := ih (n / 128) (acc ++ [UInt8.ofNat (n % 128 + 128)]) (Nat.div_lt_of_lt_mul (by rw [Nat.mul_comm, ← Nat.pow_succ]; exact hn)) (by omega) (by simp only [List.length_append, List.length_cons, List.length_nil]; omega)
      rw [List.append_assoc] at ih'
      simp only [bin_geq, bind_some', decide_eq_true (show ((n : Int) ≥ 128) by omega), condV_true, cv_u8, or_128, e, row1, a1]
      rw [show (.int .u64 7 : AV) = .int .u64 ((7 : Nat) : Int) from rfl, sh]
      exact ih'
theorem leb_Put_den (n : Nat) (hn : n < 2 ^ 64) (h : H) : D n_leb_Put [.int .u64 n] h = some (.ret (BL (lebB n) (.own 1)), h) := by
  refine leb_Put.den 10 (by simp) (h' := []) ?_ (by simp [AV.pure]) rfl
  rw [leb_Put.f_eq (leb_Put.fx 10)]
  have m1 : mkSlice 1 1 [.int .u8 0] true ([] : H) (.int .i64 0) (.int .i64 10) = some (BL [] (.own 1), []) := rfl
  simp only [m1, bind_some']
  have := leb_loop (leb_Put.fx 10) [] 9 n [] (by omega) hn (by simp)
  rw [List.nil_append] at this
  exact this
theorem rleb_loop {J : Jn (AEnd × H)} {k : Nat} (hJ : ref01_Put.F D k J) (h : H) : ∀ (m n : Nat) (acc : List UInt8) (o : Own), mayApp o 1 true = true → n < 128 ^ (m + 1) → n < 2 ^ 64 → acc.length + m ≤ 1000000 →
    ref01_Put.l0 J (m + 1) (.int .u64 n) (BL acc o) h = some (.ret (BL (acc ++ lebB n) (.own 1)), h) := by
  intro m
  induction m with
  | zero =>
    intro n acc o ho hn _ ha
    rw [ref01_Put.l0_eq hJ, lebB_small (by omega)]
    have a1 := BL_app (l := acc) (l' := [UInt8.ofNat n]) (o' := .cap) (h := h) ho (by simp; omega)
    simp only [bin_geq, bind_some', decide_eq_false (show ¬ ((n : Int) ≥ 128) by omega), condV_false, cv_u8, row1, a1]
  | succ m ih =>
    intro n acc o ho hn h64 ha
    rw [ref01_Put.l0_eq hJ]
    by_cases hs : n < 128
    · rw [lebB_small hs]
      have a1 := BL_app (l := acc) (l' := [UInt8.ofNat n]) (o' := .cap) (h := h) ho (by simp; omega)
      simp only [bin_geq, bind_some', decide_eq_false (show ¬ ((n : Int) ≥ 128) by omega), condV_false, cv_u8, row1, a1]
    · rw [lebB_big hs]
      have a1 := BL_app (l := acc) (l' := [UInt8.ofNat (n % 128 + 128)]) (o' := .cap) (h := h) ho (by simp; omega)
      have ih' := ih (n / 128) (acc ++ [UInt8.ofNat (n % 128 + 128)]) (.own 1) rfl (Nat.div_lt_of_lt_mul (by rw [Nat.mul_comm, ← Nat.pow_succ]; exact hn)) (by omega) (by simp only [List.length_append, List.length_cons, List.length_nil]; omega)
      rw [List.append_assoc] at ih'
      have e1 : bin .rem (.int .u64 (n : Int)) (.int .u64 128) = some (.int .u64 ((n % 128 : Nat) : Int)) := by rw [bin_rem, if_neg (by decide)]; rfl
      have e2 : bin .add (.int .u64 ((n % 128 : Nat) : Int)) (.int .u64 128) = some (.int .u64 ((n % 128 + 128 : Nat) : Int)) := by rw [bin_add, wrap_u64 (by omega) (by omega)]; rfl
      have e3 : bin .quo (.int .u64 (n : Int)) (.int .u64 128) = some (.int .u64 ((n / 128 : Nat) : Int)) := by rw [bin_quo, if_neg (by decide), show (n : Int).tdiv 128 = ((n / 128 : Nat) : Int) from rfl, wrap_u64 (by omega) (by omega)]
      simp only [bin_geq, bind_some', decide_eq_true (show ((n : Int) ≥ 128) by omega), condV_true, e1, e2, e3, cv_u8, row1, a1]
      exact ih'
theorem rPut_den (n : Nat) (hn : n < 2 ^ 64) (h : H) : D n_warrantorref01_Put [.int .u64 n] h = some (.ret (BL (lebB n) (.own 1)), h) := by
  refine ref01_Put.den 10 (by simp) (h' := []) ?_ (by simp [AV.pure]) rfl
  rw [ref01_Put.f_eq (ref01_Put.fx 10)]
  have := rleb_loop (ref01_Put.fx 10) [] 9 n [] .cap rfl (by omega) hn (by simp)
  rw [List.nil_append] at this
  exact this
end Go.Proofs.Ytficgmeakeiacaa

open Go Go.Ve Go.Proofs
namespace Go.Proofs.Ytficgmeakeiacaa
set_option maxRecDepth 100000
set_option linter.all false
abbrev G3 (r : Nat × Nat × Nat) : AV := .tuple [.int .u64 r.1, .int .i64 r.2.1, .int .i64 r.2.2]
theorem get_j0 {J : Jn (AEnd × H)} {k : Nat} (hJ : leb_Get.F D k J) (h : H) (l : List UInt8) (m n i : Nat) (hi : i ≤ 9) (hil : i < l.length) (hl : l.length ≤ 2 ^ 40) (hn : n < 128 ^ i) (h9 : i = 9 → l[i].toNat ≤ 1) (r : Nat × Nat × Nat)
    (ih : ¬ l[i].toNat < 128 → leb_Get.l0 J m (.int .u64 ((n + 128 ^ i * (l[i].toNat % 128) : Nat) : Int)) (BL l) (.int .i64 l.length) (.int .i64 ((i + 1 : Nat) : Int)) h = some (.ret (G3 r), h)) :
    leb_Get.j0 J m (.int .u64 n) (.int .i64 i) (bv l[i]) (BL l) (.int .i64 l.length) (.int .i64 i) h = some (.ret (G3 (if l[i].toNat < 128 then (n + 128 ^ i * l[i].toNat, i + 1, 0) else r)), h) := by
  rw [leb_Get.j0_eq hJ]
  have hb := l[i].toNat_lt
  have p7 : (128 : Nat) ^ i = 2 ^ (7 * i) := by rw [show (128 : Nat) = 2 ^ 7 from rfl, ← Nat.pow_mul]
  have pb : l[i].toNat % 128 * 2 ^ (7 * i) + n < 2 ^ 64 := by
    rw [← p7]
    rcases Nat.lt_or_ge i 9 with h8 | h8
    · have e1 : (128 : Nat) ^ i ≤ 128 ^ 8 := Nat.pow_le_pow_right (by decide) (by omega)
      have e2 : l[i].toNat % 128 * 128 ^ i ≤ 127 * 128 ^ 8 := Nat.mul_le_mul (by omega) e1
      omega
    · have e : i = 9 := by omega
      have := h9 e
      subst e
      have e2 : l[9].toNat % 128 * 128 ^ 9 ≤ 1 * 128 ^ 9 := Nat.mul_le_mul_right _ (by omega)
      omega
  have c1 : cvInt .u64 (.int .u8 ((l[i].toNat % 128 : Nat) : Int)) = some (.int .u64 ((l[i].toNat % 128 : Nat) : Int)) := by rw [cvInt_int, wrap_u64 (by omega) (by omega)]
  have c2 : bin .mul (.int .i64 7) (.int .i64 (i : Int)) = some (.int .i64 ((7 * i : Nat) : Int)) := by rw [bin_mul, wrap_i64 (by omega) (by omega)]; rfl
  have c3 := shl_u64 (a := l[i].toNat % 128) (k := 7 * i) (kk := .i64) (by omega) (by omega)
  have c4 := or_add (n := n) (a := l[i].toNat % 128) (k := 7 * i) (by rw [← p7]; exact hn) pb
  rw [← p7] at c4
  have c5 : bin .add (.int .i64 (i : Int)) (.int .i64 1) = some (.int .i64 ((i + 1 : Nat) : Int)) := by rw [bin_add, wrap_i64 (by omega) (by omega)]; rfl
  simp only [and_not_128, bind_some', c1, c2, c3]
  rw [← p7, c4]
  simp only [bind_some', bin_lss, c5]
  by_cases hs : l[i].toNat < 128
  · simp only [decide_eq_true (show ((l[i].toNat : Int) < 128) by omega), condV_true, copy_int, if_pos hs, Nat.mod_eq_of_lt hs]
    rfl
  · simp only [decide_eq_false (show ¬ ((l[i].toNat : Int) < 128) by omega), condV_false, if_neg hs]
    exact ih hs
theorem get_loop {J : Jn (AEnd × H)} {k : Nat} (hJ : leb_Get.F D k J) (h : H) (l : List UInt8) (hl : l.length ≤ 2 ^ 40) : ∀ (d i m n : Nat), i + d = l.length → d < m → i ≤ 9 ∨ d = 0 → n < 128 ^ i →
    leb_Get.l0 J m (.int .u64 n) (BL l) (.int .i64 l.length) (.int .i64 i) h = some (.ret (G3 (lebGo i n (l.drop i))), h)
  | 0, i, m + 1, n, hi, _, _, _ => by
    rw [leb_Get.l0_eq hJ, List.drop_of_length_le (by omega)]
    simp only [bin_lss, bind_some', decide_eq_false (show ¬ ((i : Int) < l.length) by omega), condV_false, lebGo]
    rfl
  | d + 1, i, m + 1, n, hi, hm, h9, hn => by
    have hil : i < l.length := by omega
    have h9 : i ≤ 9 := by omega
    have hb := l[i].toNat_lt
    rw [leb_Get.l0_eq hJ, List.drop_eq_getElem_cons hil]
    simp only [bin_lss, bind_some', decide_eq_true (show ((i : Int) < l.length) by omega), condV_true, BL_at hil, ldCell_rptr, byteRow_0, bin_eql, bin_gtr, lebGo]
    have good : ¬ ((i = 9 ∧ 1 < l[i].toNat) ∨ (l[i].toNat = 0 ∧ 0 < i)) → leb_Get.j1 J m (.int .u64 n) (.int .i64 i) (bv l[i]) (BL l) (.int .i64 l.length) (.int .i64 i) (.bool false) h = some (.ret (G3 (if l[i].toNat < 128 then (n + 128 ^ i * l[i].toNat, i + 1, 0) else lebGo (i + 1) (n + 128 ^ i * (l[i].toNat % 128)) (l.drop (i + 1)))), h) := by
      intro hg
      rw [leb_Get.j1_eq hJ]
      simp only [condV_false]
      refine get_j0 hJ h l m n i h9 hil hl hn (fun e => by omega) _ fun hs => ?_
      refine get_loop hJ h l hl d (i + 1) m _ (by omega) (by omega) (.inl (by omega)) ?_
      have e1 : 128 ^ i * (l[i].toNat % 128) ≤ 128 ^ i * 127 := Nat.mul_le_mul_left _ (by omega)
      rw [Nat.pow_succ]; omega
    have bad : leb_Get.j1 J m (.int .u64 n) (.int .i64 i) (bv l[i]) (BL l) (.int .i64 l.length) (.int .i64 i) (.bool true) h = some (.ret (G3 (0, 0, 11)), h) := by
      rw [leb_Get.j1_eq hJ]
      simp only [condV_true]
      rfl
    by_cases hx : (i = 9 ∧ 1 < l[i].toNat) ∨ (l[i].toNat = 0 ∧ 0 < i)
    · rw [if_pos hx]
      by_cases e9 : i = 9
      · simp only [decide_eq_true (show ((i : Int) = 9) by omega), condV_true]
        by_cases e1 : 1 < l[i].toNat
        · simp only [decide_eq_true (show ((l[i].toNat : Int) > 1) by omega), condV_true, bad]
        · simp only [decide_eq_false (show ¬ ((l[i].toNat : Int) > 1) by omega), condV_false, decide_eq_true (show ((i : Int) > 0) by omega), condV_true, decide_eq_true (show ((l[i].toNat : Int) = 0) by omega), bad]
      · simp only [decide_eq_false (show ¬ ((i : Int) = 9) by omega), condV_false, decide_eq_true (show ((i : Int) > 0) by omega), condV_true, decide_eq_true (show ((l[i].toNat : Int) = 0) by omega), bad]
    · rw [if_neg hx]
      have hg := good hx
      by_cases e9 : i = 9
      · simp only [decide_eq_true (show ((i : Int) = 9) by omega), condV_true, decide_eq_false (show ¬ ((l[i].toNat : Int) > 1) by omega), condV_false, decide_eq_true (show ((i : Int) > 0) by omega), decide_eq_false (show ¬ ((l[i].toNat : Int) = 0) by omega), hg]
      · simp only [decide_eq_false (show ¬ ((i : Int) = 9) by omega), condV_false]
        by_cases e0 : 0 < i
        · simp only [decide_eq_true (show ((i : Int) > 0) by omega), condV_true, decide_eq_false (show ¬ ((l[i].toNat : Int) = 0) by omega), hg]
        · simp only [decide_eq_false (show ¬ ((i : Int) > 0) by omega), condV_false, hg]
theorem leb_Get_den (l : List UInt8) (hl : l.length ≤ 2 ^ 40) (h : H) : D n_leb_Get [BL l] h = some (.ret (G3 (lebG l)), h) := by
  refine leb_Get.den (l.length + 1) (by simp) (h' := []) ?_ rfl rfl
  rw [leb_Get.f_eq (leb_Get.fx _)]
  simp only [BL_len, bind_some']
  exact get_loop (leb_Get.fx _) [] l hl l.length 0 (l.length + 1) 0 (by omega) (by omega) (.inl (by omega)) (by simp)
end Go.Proofs.Ytficgmeakeiacaa

open Go Go.Ve Go.Proofs
namespace Go.Proofs.Ytficgmeakeiacaa
set_option maxRecDepth 100000
set_option linter.all false
theorem ptr_pen (id : Nat) : aeq Try.prog 20 38 (.ptr id 0) .nilPtr = some false := by kernel_rfl
theorem ptr_rd (id : Nat) : aeq Try.prog 20 48 (.ptr id 0) .nilPtr = some false := by kernel_rfl
theorem eqv_tf : eqv true (some false) = some (.bool true) := rfl
theorem eqv_ff : eqv false (some false) = some (.bool false) := rfl
def PenAt (h : H) (id : Nat) (b : List UInt8) : Prop := ∃ o, mayApp o 1 true = true ∧ h[id]? = some (.arr [BL b o] false)
theorem PenAt.lt {h : H} {id : Nat} {b : List UInt8} (hr : PenAt h id b) : id < h.length := get_lt hr.choose_spec.2
theorem new_den (h : H) : ∃ h', D n_cur_New [] h = some (.ret (.ptr h.length 0), h') ∧ Keep [] h h' ∧ PenAt h' h.length [] := by
  refine ⟨h ++ [.arr [.list [] .cap] false], cur_New.den 1 ?_ rfl, .app, .cap, rfl, get_new⟩
  rw [cur_New.f_eq (cur_New.fx 1)]
  rw [show mkAgg [.list [] .cap] [] = some (.agg [.list [] .cap]) from rfl]
  simp only [bind_some', bx_agg (cs := [.list [] .cap]) rfl]
  rfl
theorem put_den (h : H) (id : Nat) (b l : List UInt8) (o : Own) (hp : PenAt h id b) (hl : b.length + l.length ≤ 2 ^ 40) : ∃ h', D n_cur_Pen_put [.ptr id 0, BL l o] h = some (.ret (.tuple []), h') ∧ Keep [id] h h' ∧ PenAt h' id (b ++ l) := by
  obtain ⟨o', ho, hp⟩ := hp
  have e1 := ldTake_list (off := 0) hp rfl
  have hp1 := get_set (y := .arr [AV.copy (BL b o')] false) hp
  refine ⟨_, cur_Pen_put.den 1 ?_ rfl, (Keep.set (by simp)).trans (.set (by simp)), .own 1, rfl, get_set hp1⟩
  rw [cur_Pen_put.f_eq (cur_Pen_put.fx 1)]
  simp only [ptr_pen, eqv_tf, bind_some', condV_true, nilOk_ptr, fAddr_ptr, e1, BL_app ho hl]
  have e2 := st_list (off := 0) (rows := (b ++ l).map byteRow) (o := .own 1) hp1 (by simp)
  rw [show (BL (b ++ l) (.own 1)) = .list ((b ++ l).map byteRow) (.own 1) from rfl]
  simp only [List.set_cons_zero] at e2 ⊢
  rw [e2]
  rfl
theorem penU_den (h : H) (id n : Nat) (b : List UInt8) (hp : PenAt h id b) (hn : n < 2 ^ 64) (hl : b.length + 10 ≤ 2 ^ 40) : ∃ h', D n_cur_Pen_U [.ptr id 0, .int .u64 n] h = some (.ret (.tuple []), h') ∧ Keep [id] h h' ∧ PenAt h' id (b ++ lebB n) := by
  have := lebB_10 hn
  obtain ⟨h', e, k, p⟩ := put_den h id b (lebB n) .no hp (by omega)
  refine ⟨h', cur_Pen_U.den 1 ?_ rfl, k, p⟩
  rw [cur_Pen_U.f_eq (cur_Pen_U.fx 1)]
  simp only [canon_int, leb_Put_den n hn, bind_some', retOr_ret, canon_ptr, BL_canon, e]
def txB (s : List UInt8) : List UInt8 := lebB s.length ++ s
theorem penText_den (h : H) (id : Nat) (b s : List UInt8) (hp : PenAt h id b) (hl : b.length + s.length + 20 ≤ 2 ^ 40) : ∃ h', D n_cur_Pen_Text [.ptr id 0, .str s] h = some (.ret (.tuple []), h') ∧ Keep [id] h h' ∧ PenAt h' id (b ++ txB s) := by
  have h10 := lebB_10 (n := s.length) (by omega)
  obtain ⟨h1, e1, k1, p1⟩ := penU_den h id s.length b hp (by omega) (by omega)
  obtain ⟨h2, e2, k2, p2⟩ := put_den h1 id (b ++ lebB s.length) s .no p1 (by simp; omega)
  refine ⟨h2, cur_Pen_Text.den 1 ?_ rfl, k1.trans k2, by rw [txB, ← List.append_assoc]; exact p2⟩
  rw [cur_Pen_Text.f_eq (cur_Pen_Text.fx 1)]
  simp only [lnStr_str, bind_some', cvInt_int, wrap_u64 (show (0 : Int) ≤ (s.length : Int) by omega) (show (s.length : Int) ≤ 18446744073709551615 by omega), canon_int, canon_ptr, e1, retOr_ret, BL_str, BL_canon, e2]
theorem penBytes_den (h : H) (id : Nat) (b : List UInt8) (hp : PenAt h id b) (hl : b.length ≤ 2 ^ 40) : D n_cur_Pen_Bytes [.ptr id 0] h = some (.ret (BL b (.own 1)), h) := by
  obtain ⟨o, ho, hp⟩ := hp
  refine cur_Pen_Bytes.den 1 ?_ rfl
  rw [cur_Pen_Bytes.f_eq (cur_Pen_Bytes.fx 1)]
  simp only [ptr_pen, eqv_ff, bind_some', condV_false, nilOk_ptr, fAddr_ptr, ld_at hp]
  rw [show ([BL b o])[0 + 0]? = some (BL b o) from rfl]
  simp only [bind_some', BL_canon, clone_byte b .no hl, retOr_ret]
theorem rNum_den (n : Nat) (hn : n < 2 ^ 63) (h : H) : D n_warrantorref02_Num [.int .i64 n] h = some (.ret (BL (lebB n) (.own 1)), h) := by
  refine ref02_Num.den 1 (by simp) (h' := []) ?_ (by simp [AV.pure]) rfl
  rw [ref02_Num.f_eq (ref02_Num.fx 1)]
  simp only [cvInt_int, bind_some', wrap_u64 (show (0 : Int) ≤ (n : Int) by omega) (show (n : Int) ≤ 18446744073709551615 by omega), canon_int, rPut_den n (by omega), retOr_ret]
theorem rText_den (s : List UInt8) (hl : s.length ≤ 2 ^ 38) (h : H) : D n_warrantorref02_Text [.str s] h = some (.ret (BL (txB s) (.own 1)), h) := by
  have h10 := lebB_10 (n := s.length) (by omega)
  refine ref02_Text.den 1 (by simp) (h' := []) ?_ (by simp [AV.pure]) rfl
  rw [ref02_Text.f_eq (ref02_Text.fx 1)]
  simp only [lnStr_str, cvInt_int, bind_some', wrap_u64 (show (0 : Int) ≤ (s.length : Int) by omega) (show (s.length : Int) ≤ 18446744073709551615 by omega), canon_int, rPut_den s.length (by omega), retOr_ret, BL_str, BL_app (l := lebB s.length) (l' := s) (o := .own 1) (o' := .own 1) (owned := true) rfl (by omega)]
  rfl
end Go.Proofs.Ytficgmeakeiacaa

open Go Go.Ve Go.Proofs
namespace Go.Proofs.Ytficgmeakeiacaa
set_option maxRecDepth 100000
set_option linter.all false
theorem set_new {h : H} {x y : AObj} : (h ++ [x]).set h.length y = h ++ [y] := by simp [List.set_append]
theorem whenB_true {R : Type} {x : Option R} : whenB true x = x := rfl
theorem retOr_pan {R : Type} {v : AV} {kp kv : AV → R} : retOr (.pan v) kp kv = kp v := rfl
section
abbrev cur_ask_int.V (v : Nat) : AV := .int .i64 v
theorem cur_ask_int.dc_none' {call : Cl} {n : Nat} (x0 x1 x2 : AV) (h : H) : cur_ask_int.dc call n n_cur_ask_int__c1 [x0, x1, x2] h .nilIface = some (h ++ [.arr [.int .i64 0] false]) := by
  rw [cur_ask_int.d57_eq]
  have hn : (h ++ [AObj.arr [.int .i64 0] false])[h.length]? = some (.arr [.int .i64 0] false) := get_new
  have e1 := st_agg (off := 0) (n := 1) (vs := [.int .i64 0]) hn (by simp) rfl rfl
  simp only [taTo, if_true, bind_some', exTuple_eq]
  rw [show ([AV.agg [AV.int .i64 0], AV.bool false])[0]? = some (AV.agg [AV.int .i64 0]) from rfl, show ([AV.agg [AV.int .i64 0], AV.bool false])[1]? = some (AV.bool false) from rfl]
  simp only [bind_some', condV_false]
  rw [show AV.copy (.agg [.int .i64 0]) = .agg [.int .i64 0] from rfl, e1]
  simp only [bind_some']
  congr 1
  simp [set_new]
theorem cur_ask_int.dc_pan {call : Cl} {n : Nat} {h : H} {s r a id : Nat} {b : AV} {p e : Int} {p' e' w : AV} (hs : h[s]? = some (.arr [.int .i64 p] false)) (hr : h[r]? = some (.arr [w] false)) (ha : h[a]? = some (.arr [.ptr id 0] false)) (hi : h[id]? = some (.arr [b, p', e'] false))
    (h1 : s ≠ r) (h2 : s ≠ id) (h3 : a ≠ r) (h4 : a ≠ id) (h5 : r ≠ id) :
    ∃ h', cur_ask_int.dc call n n_cur_ask_int__c1 [.ptr s 0, .ptr r 0, .ptr a 0] h (.iface t_cur_broken (.agg [.int .i64 e])) = some h' ∧ Keep [id, r] h h' ∧ h'[id]? = some (.arr [b, .int .i64 p, .int .i64 e] false) ∧ h'[r]? = some (.arr [(AV.int .i64 0)] false) := by
  have hn : (h ++ [AObj.arr [.int .i64 0] false])[h.length]? = some (.arr [.int .i64 0] false) := get_new
  have e1 := st_agg (off := 0) (n := 1) (vs := [.int .i64 e]) hn (by simp) rfl rfl
  rw [show List.take 0 [AV.int .i64 0] ++ [AV.int .i64 e] ++ List.drop (0 + [AV.int .i64 e].length) [AV.int .i64 0] = [.int .i64 e] from rfl, set_new] at e1
  have lr := get_lt hr
  have li := get_lt hi
  obtain ⟨g, hg⟩ : ∃ g, g = h ++ [AObj.arr [.int .i64 e] false] := ⟨_, rfl⟩
  rw [← hg] at e1
  have gs : g[s]? = some (.arr [.int .i64 p] false) := hg ▸ get_app hs
  have gr : g[r]? = some (.arr [w] false) := hg ▸ get_app hr
  have ga : g[a]? = some (.arr [.ptr id 0] false) := hg ▸ get_app ha
  have gi : g[id]? = some (.arr [b, p', e'] false) := hg ▸ get_app hi
  have gn : g[h.length]? = some (.arr [.int .i64 e] false) := hg ▸ get_new
  have e2 : stN 1 g (.ptr r 0) (AV.int .i64 0) = some (.undef, g.set r (.arr [(AV.int .i64 0)] false)) := st_int gr (by simp)
  have k2 : Keep [r] g (g.set r (.arr [(AV.int .i64 0)] false)) := .set (by simp)
  have gi2 := k2.get gi (by simp; omega)
  have gn2 := k2.get gn (by simp; omega)
  have gr2 := get_set (y := .arr [(AV.int .i64 0)] false) gr
  have e3 := st_int (off := 1) (k := .i64) (z := p) gi2 (by simp)
  have k3 : Keep [id] (g.set r (.arr [(AV.int .i64 0)] false)) ((g.set r (.arr [(AV.int .i64 0)] false)).set id (.arr ([b, p', e'].set 1 (.int .i64 p)) false)) := .set (by simp)
  have gi3 := get_set (y := .arr ([b, p', e'].set 1 (.int .i64 p)) false) gi2
  have gn3 := k3.get gn2 (by simp; omega)
  have gr3 := k3.get gr2 (by simp; omega)
  have e4 := st_int (off := 2) (k := .i64) (z := e) gi3 (by simp)
  have k4 : Keep [id] ((g.set r (.arr [(AV.int .i64 0)] false)).set id (.arr ([b, p', e'].set 1 (.int .i64 p)) false)) (((g.set r (.arr [(AV.int .i64 0)] false)).set id (.arr ([b, p', e'].set 1 (.int .i64 p)) false)).set id (.arr (([b, p', e'].set 1 (.int .i64 p)).set 2 (.int .i64 e)) false)) := .set (by simp)
  refine ⟨_, ?_, (Keep.trans (hg ▸ Keep.app) (k2.mono (by simp))).trans ((k3.mono (by simp)).trans (k4.mono (by simp))), get_set gi3, k4.get gr3 (by simp; omega)⟩
  rw [cur_ask_int.d57_eq]
  simp only [taTo, if_true, bind_some', exTuple_eq]
  rw [show ([AV.agg [AV.int .i64 e], AV.bool true])[0]? = some (AV.agg [AV.int .i64 e]) from rfl, show ([AV.agg [AV.int .i64 e], AV.bool true])[1]? = some (AV.bool true) from rfl]
  simp only [bind_some', condV_true]
  rw [show AV.copy (.agg [.int .i64 e]) = .agg [.int .i64 e] from rfl, e1]
  simp only [bind_some', ld_at ga, ld_at gs, fAddr_ptr, ld_at gn, e2, ld_at gn2]
  rw [show ([AV.ptr id 0])[0]? = some (AV.ptr id 0) from rfl, show ([AV.int .i64 p])[0]? = some (AV.int .i64 p) from rfl, show ([AV.int .i64 e])[0 + 0]? = some (AV.int .i64 e) from rfl]
  simp only [bind_some', eqO, eqb_self, whenB_true, nilOk_ptr, fAddr_ptr, copy_int]
  rw [show (0 + 1) = 1 from rfl, show (0 + 2) = 2 from rfl, e3]
  simp only [bind_some', ld_at gn3]
  rw [show ([AV.int .i64 e])[0 + 0]? = some (AV.int .i64 e) from rfl]
  simp only [bind_some', eqO, eqb_self, whenB_true, nilOk_ptr, fAddr_ptr, copy_int]
  rw [e4]
  rfl
theorem cur_ask_int_bad {h : H} {id : Nat} {r : Rd} (fv : AV) (hr : RdAt h id r) (he : r.e ≠ 0) : ∃ h', D n_cur_ask_int [.ptr id 0, fv] h = some (.ret (AV.int .i64 0), h') ∧ Keep [] h h' ∧ RdAt h' id r := by
  obtain ⟨o, hr⟩ := hr
  obtain ⟨h1, hh1⟩ : ∃ g, g = h ++ [AObj.arr [.ptr id 0] false] := ⟨_, rfl⟩
  obtain ⟨h2, hh2⟩ : ∃ g, g = h1 ++ [AObj.arr [(AV.int .i64 0)] false] := ⟨_, rfl⟩
  have l1 : h1.length = h.length + 1 := by rw [hh1]; simp
  have l2 : h2.length = h1.length + 1 := by rw [hh2]; simp
  have k1 : Keep [] h h1 := hh1 ▸ Keep.app
  have k2 : Keep [] h1 h2 := hh2 ▸ Keep.app
  have a1 : h2[h.length]? = some (.arr [.ptr id 0] false) := k2.get (hh1 ▸ get_new) (by simp)
  have z1 : h2[h1.length]? = some (.arr [(AV.int .i64 0)] false) := hh2 ▸ get_new
  have r1 : h2[id]? = some (.arr (r.cells o) false) := (k1.trans k2).get hr (by simp)
  have e1 : stN 1 h2 (.ptr h1.length 0) (AV.int .i64 0) = _ := st_int z1 (by simp)
  have k4 : Keep [] h (h2.set h1.length (.arr ([(AV.int .i64 0)].set 0 (AV.int .i64 0)) false)) := Keep.drop (id := h1.length) ((k1.trans k2).nil.trans (Keep.set (by simp))) (by omega)
  refine ⟨_, cur_ask_int.den 1 ?_ rfl, k4, o, k4.get hr (by simp)⟩
  rw [cur_ask_int.f_eq (cur_ask_int.fx 1)]
  rw [copy_ptr, bx_one (v := .ptr id 0) rfl]
  simp only [bind_some', cells_ptr]
  rw [← hh1, ← hh2]
  rw [ld_at a1, show ([AV.ptr id 0])[0]? = some (AV.ptr id 0) from rfl]
  simp only [bind_some', ptr_rd, eqv_ff, condV_false, nilOk_ptr, fAddr_ptr]
  rw [ld_at r1, show (r.cells o)[0 + 2]? = some (AV.int .i64 r.e) from rfl]
  simp only [bind_some', bin_neq, decide_eq_true (show ((r.e : Int) ≠ 0) by omega)]
  rw [cur_ask_int.j1_eq (cur_ask_int.fx 1)]
  simp only [condV_true]
  rw [ld_at z1, show ([(AV.int .i64 0)] : List AV)[0]? = some (AV.int .i64 0) from rfl]
  simp only [bind_some', copy_int]
  rw [e1]
  simp only [bind_some']
  rw [ld_at (get_set z1)]
  rfl
theorem cur_ask_int_ok {h : H} {id : Nat} {r r' : Rd} (fv : AV) (v : Nat) (hr : RdAt h id r) (he : r.e = 0)
    (hf : ∀ h1 o, Keep [] h h1 → h1[id]? = some (.arr (r.cells o) false) → ∃ h2, callVal D h1 fv [.ptr id 0] = some (.ret (cur_ask_int.V v), h2) ∧ Keep [id] h1 h2 ∧ RdAt h2 id r') :
    ∃ h', D n_cur_ask_int [.ptr id 0, fv] h = some (.ret (cur_ask_int.V v), h') ∧ Keep [id] h h' ∧ RdAt h' id r' := by
  obtain ⟨o, hr⟩ := hr
  have li := get_lt hr
  obtain ⟨h1, hh1⟩ : ∃ g, g = h ++ [AObj.arr [.ptr id 0] false] := ⟨_, rfl⟩
  obtain ⟨h2, hh2⟩ : ∃ g, g = h1 ++ [AObj.arr [(AV.int .i64 0)] false] := ⟨_, rfl⟩
  have l1 : h1.length = h.length + 1 := by rw [hh1]; simp
  have l2 : h2.length = h1.length + 1 := by rw [hh2]; simp
  have k1 : Keep [] h h1 := hh1 ▸ Keep.app
  have k2 : Keep [] h1 h2 := hh2 ▸ Keep.app
  obtain ⟨h3, hh3⟩ : ∃ g, g = h2 ++ [AObj.arr [.int .i64 r.p] false] := ⟨_, rfl⟩
  have k23 : Keep [] h2 h3 := hh3 ▸ Keep.app
  have k3 : Keep [] h h3 := (k1.trans k2).trans k23
  obtain ⟨h4, e4, k4, r4⟩ := hf h3 o k3 (k3.get hr (by simp))
  have a1 : h2[h.length]? = some (.arr [.ptr id 0] false) := k2.get (hh1 ▸ get_new) (by simp)
  have z1 : h2[h1.length]? = some (.arr [(AV.int .i64 0)] false) := hh2 ▸ get_new
  have r1 : h2[id]? = some (.arr (r.cells o) false) := (k1.trans k2).get hr (by simp)
  have z4 := k4.get (k23.get z1 (by simp)) (by simp; omega)
  have e5 : stN 1 h4 (.ptr h1.length 0) (cur_ask_int.V v) = _ := st_int z4 (by simp)
  obtain ⟨h5, hh5⟩ : ∃ g, g = h4.set h1.length (.arr [cur_ask_int.V v] false) := ⟨_, rfl⟩
  have k5 : Keep [h1.length] h4 h5 := hh5 ▸ .set (by simp)
  have z5 : h5[h1.length]? = some (.arr [cur_ask_int.V v] false) := hh5 ▸ get_set z4
  have r5 := k5.rd r4 (by simp; omega)
  have kk : Keep [id] h h5 := ((k3.nil.trans (k4.mono (ids' := [h1.length, id]) (by simp))).trans (k5.mono (by simp))).drop (by omega)
  refine ⟨h5 ++ [.arr [.int .i64 0] false], cur_ask_int.den 1 ?_ rfl, kk.trans .app, (Keep.app (ids := [])).rd r5 (by simp)⟩
  rw [cur_ask_int.f_eq (cur_ask_int.fx 1)]
  rw [copy_ptr, bx_one (v := .ptr id 0) rfl]
  simp only [bind_some', cells_ptr]
  rw [← hh1, ← hh2]
  rw [ld_at a1, show ([AV.ptr id 0])[0]? = some (AV.ptr id 0) from rfl]
  simp only [bind_some', ptr_rd, eqv_ff, condV_false, nilOk_ptr, fAddr_ptr]
  rw [ld_at r1, show (r.cells o)[0 + 2]? = some (AV.int .i64 r.e) from rfl]
  simp only [bind_some', bin_neq, decide_eq_false (show ¬ ((r.e : Int) ≠ 0) by omega)]
  rw [cur_ask_int.j1_eq (cur_ask_int.fx 1)]
  simp only [condV_false]
  rw [cur_ask_int.j0_eq (cur_ask_int.fx 1)]
  rw [ld_at a1, show ([AV.ptr id 0])[0]? = some (AV.ptr id 0) from rfl]
  simp only [bind_some', nilOk_ptr, fAddr_ptr]
  rw [ld_at r1, show (r.cells o)[0 + 1]? = some (AV.int .i64 r.p) from rfl]
  simp only [bind_some', copy_int]
  have s1 := st_int (off := 0) (k := .i64) (z := r.p) (get_new (h := h2) (x := .arr [.int .i64 0] false)) (by simp)
  rw [set_new] at s1
  rw [s1]
  simp only [bind_some']
  have a2 : h3[h.length]? = some (.arr [.ptr id 0] false) := k23.get a1 (by simp)
  rw [show (h2 ++ [AObj.arr ([AV.int .i64 0].set 0 (AV.int .i64 r.p)) false]) = h3 from hh3.symm, ld_at a2, show ([AV.ptr id 0])[0]? = some (AV.ptr id 0) from rfl]
  simp only [bind_some', canon_ptr]
  rw [e4]
  simp only [bind_some', retOr_ret]
  rw [e5]
  simp only [bind_some']
  rw [cur_ask_int.dc_none']
  simp only [bind_some']
  rw [show (h4.set h1.length (AObj.arr ([(AV.int .i64 0)].set 0 (cur_ask_int.V v)) false)) = h5 from hh5.symm, ld_at (get_app z5)]
  rfl
theorem cur_ask_int_pan {h : H} {id : Nat} {r : Rd} (fv : AV) (e : Nat) (hr : RdAt h id r) (he : r.e = 0)
    (hf : ∀ h1 o, Keep [] h h1 → h1[id]? = some (.arr (r.cells o) false) → ∃ h2 p', callVal D h1 fv [.ptr id 0] = some (.pan (.iface t_cur_broken (.agg [.int .i64 e])), h2) ∧ Keep [id] h1 h2 ∧ RdAt h2 id { r with p := p' }) :
    ∃ h', D n_cur_ask_int [.ptr id 0, fv] h = some (.ret (AV.int .i64 0), h') ∧ Keep [id] h h' ∧ RdAt h' id { r with e := e } := by
  obtain ⟨o, hr⟩ := hr
  have li := get_lt hr
  obtain ⟨h1, hh1⟩ : ∃ g, g = h ++ [AObj.arr [.ptr id 0] false] := ⟨_, rfl⟩
  obtain ⟨h2, hh2⟩ : ∃ g, g = h1 ++ [AObj.arr [(AV.int .i64 0)] false] := ⟨_, rfl⟩
  have l1 : h1.length = h.length + 1 := by rw [hh1]; simp
  have l2 : h2.length = h1.length + 1 := by rw [hh2]; simp
  have k1 : Keep [] h h1 := hh1 ▸ Keep.app
  have k2 : Keep [] h1 h2 := hh2 ▸ Keep.app
  obtain ⟨h3, hh3⟩ : ∃ g, g = h2 ++ [AObj.arr [.int .i64 r.p] false] := ⟨_, rfl⟩
  have k23 : Keep [] h2 h3 := hh3 ▸ Keep.app
  have k3 : Keep [] h h3 := (k1.trans k2).trans k23
  obtain ⟨h4, p', e4, k4, o4, r4⟩ := hf h3 o k3 (k3.get hr (by simp))
  have a1 : h2[h.length]? = some (.arr [.ptr id 0] false) := k2.get (hh1 ▸ get_new) (by simp)
  have z1 : h2[h1.length]? = some (.arr [(AV.int .i64 0)] false) := hh2 ▸ get_new
  have r1 : h2[id]? = some (.arr (r.cells o) false) := (k1.trans k2).get hr (by simp)
  have z4 := k4.get (k23.get z1 (by simp)) (by simp; omega)
  have a4 := k4.get (k23.get a1 (by simp)) (by simp; omega)
  have s4 := k4.get (j := h2.length) (show h3[h2.length]? = some (.arr [.int .i64 r.p] false) from hh3 ▸ get_new) (by simp; omega)
  obtain ⟨h5, e5, k5, r5, z5⟩ := cur_ask_int.dc_pan (call := D) (n := 1) (e := e) s4 z4 a4 r4 (by omega) (by omega) (by omega) (by omega) (by omega)
  have kk : Keep [id] h h5 := (Keep.trans (k3.nil.trans (k4.mono (ids' := [h1.length, id]) (by simp))) (k5.mono (by simp))).drop (by omega)
  refine ⟨h5, cur_ask_int.den 1 ?_ rfl, kk, o4, r5⟩
  rw [cur_ask_int.f_eq (cur_ask_int.fx 1)]
  rw [copy_ptr, bx_one (v := .ptr id 0) rfl]
  simp only [bind_some', cells_ptr]
  rw [← hh1, ← hh2]
  rw [ld_at a1, show ([AV.ptr id 0])[0]? = some (AV.ptr id 0) from rfl]
  simp only [bind_some', ptr_rd, eqv_ff, condV_false, nilOk_ptr, fAddr_ptr]
  rw [ld_at r1, show (r.cells o)[0 + 2]? = some (AV.int .i64 r.e) from rfl]
  simp only [bind_some', bin_neq, decide_eq_false (show ¬ ((r.e : Int) ≠ 0) by omega)]
  rw [cur_ask_int.j1_eq (cur_ask_int.fx 1)]
  simp only [condV_false]
  rw [cur_ask_int.j0_eq (cur_ask_int.fx 1)]
  rw [ld_at a1, show ([AV.ptr id 0])[0]? = some (AV.ptr id 0) from rfl]
  simp only [bind_some', nilOk_ptr, fAddr_ptr]
  rw [ld_at r1, show (r.cells o)[0 + 1]? = some (AV.int .i64 r.p) from rfl]
  simp only [bind_some', copy_int]
  have s1 := st_int (off := 0) (k := .i64) (z := r.p) (get_new (h := h2) (x := .arr [.int .i64 0] false)) (by simp)
  rw [set_new] at s1
  rw [s1]
  simp only [bind_some']
  have a2 : h3[h.length]? = some (.arr [.ptr id 0] false) := k23.get a1 (by simp)
  rw [show (h2 ++ [AObj.arr ([AV.int .i64 0].set 0 (AV.int .i64 r.p)) false]) = h3 from hh3.symm, ld_at a2, show ([AV.ptr id 0])[0]? = some (AV.ptr id 0) from rfl]
  simp only [bind_some', canon_ptr]
  rw [e4]
  simp only [bind_some', retOr_pan, copy_ptr]
  rw [e5]
  simp only [bind_some']
  rw [ld_at z5]
  rfl
end
section
abbrev cur_ask_string.V (v : List UInt8) : AV := .str v
theorem cur_ask_string.dc_none' {call : Cl} {n : Nat} (x0 x1 x2 : AV) (h : H) : cur_ask_string.dc call n n_cur_ask_string__c1 [x0, x1, x2] h .nilIface = some (h ++ [.arr [.int .i64 0] false]) := by
  rw [cur_ask_string.d75_eq]
  have hn : (h ++ [AObj.arr [.int .i64 0] false])[h.length]? = some (.arr [.int .i64 0] false) := get_new
  have e1 := st_agg (off := 0) (n := 1) (vs := [.int .i64 0]) hn (by simp) rfl rfl
  simp only [taTo, if_true, bind_some', exTuple_eq]
  rw [show ([AV.agg [AV.int .i64 0], AV.bool false])[0]? = some (AV.agg [AV.int .i64 0]) from rfl, show ([AV.agg [AV.int .i64 0], AV.bool false])[1]? = some (AV.bool false) from rfl]
  simp only [bind_some', condV_false]
  rw [show AV.copy (.agg [.int .i64 0]) = .agg [.int .i64 0] from rfl, e1]
  simp only [bind_some']
  congr 1
  simp [set_new]
theorem cur_ask_string.dc_pan {call : Cl} {n : Nat} {h : H} {s r a id : Nat} {b : AV} {p e : Int} {p' e' w : AV} (hs : h[s]? = some (.arr [.int .i64 p] false)) (hr : h[r]? = some (.arr [w] false)) (ha : h[a]? = some (.arr [.ptr id 0] false)) (hi : h[id]? = some (.arr [b, p', e'] false))
    (h1 : s ≠ r) (h2 : s ≠ id) (h3 : a ≠ r) (h4 : a ≠ id) (h5 : r ≠ id) :
    ∃ h', cur_ask_string.dc call n n_cur_ask_string__c1 [.ptr s 0, .ptr r 0, .ptr a 0] h (.iface t_cur_broken (.agg [.int .i64 e])) = some h' ∧ Keep [id, r] h h' ∧ h'[id]? = some (.arr [b, .int .i64 p, .int .i64 e] false) ∧ h'[r]? = some (.arr [(AV.str [])] false) := by
  have hn : (h ++ [AObj.arr [.int .i64 0] false])[h.length]? = some (.arr [.int .i64 0] false) := get_new
  have e1 := st_agg (off := 0) (n := 1) (vs := [.int .i64 e]) hn (by simp) rfl rfl
  rw [show List.take 0 [AV.int .i64 0] ++ [AV.int .i64 e] ++ List.drop (0 + [AV.int .i64 e].length) [AV.int .i64 0] = [.int .i64 e] from rfl, set_new] at e1
  have lr := get_lt hr
  have li := get_lt hi
  obtain ⟨g, hg⟩ : ∃ g, g = h ++ [AObj.arr [.int .i64 e] false] := ⟨_, rfl⟩
  rw [← hg] at e1
  have gs : g[s]? = some (.arr [.int .i64 p] false) := hg ▸ get_app hs
  have gr : g[r]? = some (.arr [w] false) := hg ▸ get_app hr
  have ga : g[a]? = some (.arr [.ptr id 0] false) := hg ▸ get_app ha
  have gi : g[id]? = some (.arr [b, p', e'] false) := hg ▸ get_app hi
  have gn : g[h.length]? = some (.arr [.int .i64 e] false) := hg ▸ get_new
  have e2 : stN 1 g (.ptr r 0) (AV.str []) = some (.undef, g.set r (.arr [(AV.str [])] false)) := st_str gr (by simp)
  have k2 : Keep [r] g (g.set r (.arr [(AV.str [])] false)) := .set (by simp)
  have gi2 := k2.get gi (by simp; omega)
  have gn2 := k2.get gn (by simp; omega)
  have gr2 := get_set (y := .arr [(AV.str [])] false) gr
  have e3 := st_int (off := 1) (k := .i64) (z := p) gi2 (by simp)
  have k3 : Keep [id] (g.set r (.arr [(AV.str [])] false)) ((g.set r (.arr [(AV.str [])] false)).set id (.arr ([b, p', e'].set 1 (.int .i64 p)) false)) := .set (by simp)
  have gi3 := get_set (y := .arr ([b, p', e'].set 1 (.int .i64 p)) false) gi2
  have gn3 := k3.get gn2 (by simp; omega)
  have gr3 := k3.get gr2 (by simp; omega)
  have e4 := st_int (off := 2) (k := .i64) (z := e) gi3 (by simp)
  have k4 : Keep [id] ((g.set r (.arr [(AV.str [])] false)).set id (.arr ([b, p', e'].set 1 (.int .i64 p)) false)) (((g.set r (.arr [(AV.str [])] false)).set id (.arr ([b, p', e'].set 1 (.int .i64 p)) false)).set id (.arr (([b, p', e'].set 1 (.int .i64 p)).set 2 (.int .i64 e)) false)) := .set (by simp)
  refine ⟨_, ?_, (Keep.trans (hg ▸ Keep.app) (k2.mono (by simp))).trans ((k3.mono (by simp)).trans (k4.mono (by simp))), get_set gi3, k4.get gr3 (by simp; omega)⟩
  rw [cur_ask_string.d75_eq]
  simp only [taTo, if_true, bind_some', exTuple_eq]
  rw [show ([AV.agg [AV.int .i64 e], AV.bool true])[0]? = some (AV.agg [AV.int .i64 e]) from rfl, show ([AV.agg [AV.int .i64 e], AV.bool true])[1]? = some (AV.bool true) from rfl]
  simp only [bind_some', condV_true]
  rw [show AV.copy (.agg [.int .i64 e]) = .agg [.int .i64 e] from rfl, e1]
  simp only [bind_some', ld_at ga, ld_at gs, fAddr_ptr, ld_at gn, e2, ld_at gn2]
  rw [show ([AV.ptr id 0])[0]? = some (AV.ptr id 0) from rfl, show ([AV.int .i64 p])[0]? = some (AV.int .i64 p) from rfl, show ([AV.int .i64 e])[0 + 0]? = some (AV.int .i64 e) from rfl]
  simp only [bind_some', eqO, eqb_self, whenB_true, nilOk_ptr, fAddr_ptr, copy_int]
  rw [show (0 + 1) = 1 from rfl, show (0 + 2) = 2 from rfl, e3]
  simp only [bind_some', ld_at gn3]
  rw [show ([AV.int .i64 e])[0 + 0]? = some (AV.int .i64 e) from rfl]
  simp only [bind_some', eqO, eqb_self, whenB_true, nilOk_ptr, fAddr_ptr, copy_int]
  rw [e4]
  rfl
theorem cur_ask_string_bad {h : H} {id : Nat} {r : Rd} (fv : AV) (hr : RdAt h id r) (he : r.e ≠ 0) : ∃ h', D n_cur_ask_string [.ptr id 0, fv] h = some (.ret (AV.str []), h') ∧ Keep [] h h' ∧ RdAt h' id r := by
  obtain ⟨o, hr⟩ := hr
  obtain ⟨h1, hh1⟩ : ∃ g, g = h ++ [AObj.arr [.ptr id 0] false] := ⟨_, rfl⟩
  obtain ⟨h2, hh2⟩ : ∃ g, g = h1 ++ [AObj.arr [(AV.str [])] false] := ⟨_, rfl⟩
  have l1 : h1.length = h.length + 1 := by rw [hh1]; simp
  have l2 : h2.length = h1.length + 1 := by rw [hh2]; simp
  have k1 : Keep [] h h1 := hh1 ▸ Keep.app
  have k2 : Keep [] h1 h2 := hh2 ▸ Keep.app
  have a1 : h2[h.length]? = some (.arr [.ptr id 0] false) := k2.get (hh1 ▸ get_new) (by simp)
  have z1 : h2[h1.length]? = some (.arr [(AV.str [])] false) := hh2 ▸ get_new
  have r1 : h2[id]? = some (.arr (r.cells o) false) := (k1.trans k2).get hr (by simp)
  have e1 : stN 1 h2 (.ptr h1.length 0) (AV.str []) = _ := st_str z1 (by simp)
  have k4 : Keep [] h (h2.set h1.length (.arr ([(AV.str [])].set 0 (AV.str [])) false)) := Keep.drop (id := h1.length) ((k1.trans k2).nil.trans (Keep.set (by simp))) (by omega)
  refine ⟨_, cur_ask_string.den 1 ?_ rfl, k4, o, k4.get hr (by simp)⟩
  rw [cur_ask_string.f_eq (cur_ask_string.fx 1)]
  rw [copy_ptr, bx_one (v := .ptr id 0) rfl]
  simp only [bind_some', cells_ptr]
  rw [← hh1, ← hh2]
  rw [ld_at a1, show ([AV.ptr id 0])[0]? = some (AV.ptr id 0) from rfl]
  simp only [bind_some', ptr_rd, eqv_ff, condV_false, nilOk_ptr, fAddr_ptr]
  rw [ld_at r1, show (r.cells o)[0 + 2]? = some (AV.int .i64 r.e) from rfl]
  simp only [bind_some', bin_neq, decide_eq_true (show ((r.e : Int) ≠ 0) by omega)]
  rw [cur_ask_string.j1_eq (cur_ask_string.fx 1)]
  simp only [condV_true]
  rw [ld_at z1, show ([(AV.str [])] : List AV)[0]? = some (AV.str []) from rfl]
  simp only [bind_some', copy_str]
  rw [e1]
  simp only [bind_some']
  rw [ld_at (get_set z1)]
  rfl
theorem cur_ask_string_ok {h : H} {id : Nat} {r r' : Rd} (fv : AV) (v : List UInt8) (hr : RdAt h id r) (he : r.e = 0)
    (hf : ∀ h1 o, Keep [] h h1 → h1[id]? = some (.arr (r.cells o) false) → ∃ h2, callVal D h1 fv [.ptr id 0] = some (.ret (cur_ask_string.V v), h2) ∧ Keep [id] h1 h2 ∧ RdAt h2 id r') :
    ∃ h', D n_cur_ask_string [.ptr id 0, fv] h = some (.ret (cur_ask_string.V v), h') ∧ Keep [id] h h' ∧ RdAt h' id r' := by
  obtain ⟨o, hr⟩ := hr
  have li := get_lt hr
  obtain ⟨h1, hh1⟩ : ∃ g, g = h ++ [AObj.arr [.ptr id 0] false] := ⟨_, rfl⟩
  obtain ⟨h2, hh2⟩ : ∃ g, g = h1 ++ [AObj.arr [(AV.str [])] false] := ⟨_, rfl⟩
  have l1 : h1.length = h.length + 1 := by rw [hh1]; simp
  have l2 : h2.length = h1.length + 1 := by rw [hh2]; simp
  have k1 : Keep [] h h1 := hh1 ▸ Keep.app
  have k2 : Keep [] h1 h2 := hh2 ▸ Keep.app
  obtain ⟨h3, hh3⟩ : ∃ g, g = h2 ++ [AObj.arr [.int .i64 r.p] false] := ⟨_, rfl⟩
  have k23 : Keep [] h2 h3 := hh3 ▸ Keep.app
  have k3 : Keep [] h h3 := (k1.trans k2).trans k23
  obtain ⟨h4, e4, k4, r4⟩ := hf h3 o k3 (k3.get hr (by simp))
  have a1 : h2[h.length]? = some (.arr [.ptr id 0] false) := k2.get (hh1 ▸ get_new) (by simp)
  have z1 : h2[h1.length]? = some (.arr [(AV.str [])] false) := hh2 ▸ get_new
  have r1 : h2[id]? = some (.arr (r.cells o) false) := (k1.trans k2).get hr (by simp)
  have z4 := k4.get (k23.get z1 (by simp)) (by simp; omega)
  have e5 : stN 1 h4 (.ptr h1.length 0) (cur_ask_string.V v) = _ := st_str z4 (by simp)
  obtain ⟨h5, hh5⟩ : ∃ g, g = h4.set h1.length (.arr [cur_ask_string.V v] false) := ⟨_, rfl⟩
  have k5 : Keep [h1.length] h4 h5 := hh5 ▸ .set (by simp)
  have z5 : h5[h1.length]? = some (.arr [cur_ask_string.V v] false) := hh5 ▸ get_set z4
  have r5 := k5.rd r4 (by simp; omega)
  have kk : Keep [id] h h5 := ((k3.nil.trans (k4.mono (ids' := [h1.length, id]) (by simp))).trans (k5.mono (by simp))).drop (by omega)
  refine ⟨h5 ++ [.arr [.int .i64 0] false], cur_ask_string.den 1 ?_ rfl, kk.trans .app, (Keep.app (ids := [])).rd r5 (by simp)⟩
  rw [cur_ask_string.f_eq (cur_ask_string.fx 1)]
  rw [copy_ptr, bx_one (v := .ptr id 0) rfl]
  simp only [bind_some', cells_ptr]
  rw [← hh1, ← hh2]
  rw [ld_at a1, show ([AV.ptr id 0])[0]? = some (AV.ptr id 0) from rfl]
  simp only [bind_some', ptr_rd, eqv_ff, condV_false, nilOk_ptr, fAddr_ptr]
  rw [ld_at r1, show (r.cells o)[0 + 2]? = some (AV.int .i64 r.e) from rfl]
  simp only [bind_some', bin_neq, decide_eq_false (show ¬ ((r.e : Int) ≠ 0) by omega)]
  rw [cur_ask_string.j1_eq (cur_ask_string.fx 1)]
  simp only [condV_false]
  rw [cur_ask_string.j0_eq (cur_ask_string.fx 1)]
  rw [ld_at a1, show ([AV.ptr id 0])[0]? = some (AV.ptr id 0) from rfl]
  simp only [bind_some', nilOk_ptr, fAddr_ptr]
  rw [ld_at r1, show (r.cells o)[0 + 1]? = some (AV.int .i64 r.p) from rfl]
  simp only [bind_some', copy_int]
  have s1 := st_int (off := 0) (k := .i64) (z := r.p) (get_new (h := h2) (x := .arr [.int .i64 0] false)) (by simp)
  rw [set_new] at s1
  rw [s1]
  simp only [bind_some']
  have a2 : h3[h.length]? = some (.arr [.ptr id 0] false) := k23.get a1 (by simp)
  rw [show (h2 ++ [AObj.arr ([AV.int .i64 0].set 0 (AV.int .i64 r.p)) false]) = h3 from hh3.symm, ld_at a2, show ([AV.ptr id 0])[0]? = some (AV.ptr id 0) from rfl]
  simp only [bind_some', canon_ptr]
  rw [e4]
  simp only [bind_some', retOr_ret]
  rw [e5]
  simp only [bind_some']
  rw [cur_ask_string.dc_none']
  simp only [bind_some']
  rw [show (h4.set h1.length (AObj.arr ([(AV.str [])].set 0 (cur_ask_string.V v)) false)) = h5 from hh5.symm, ld_at (get_app z5)]
  rfl
theorem cur_ask_string_pan {h : H} {id : Nat} {r : Rd} (fv : AV) (e : Nat) (hr : RdAt h id r) (he : r.e = 0)
    (hf : ∀ h1 o, Keep [] h h1 → h1[id]? = some (.arr (r.cells o) false) → ∃ h2 p', callVal D h1 fv [.ptr id 0] = some (.pan (.iface t_cur_broken (.agg [.int .i64 e])), h2) ∧ Keep [id] h1 h2 ∧ RdAt h2 id { r with p := p' }) :
    ∃ h', D n_cur_ask_string [.ptr id 0, fv] h = some (.ret (AV.str []), h') ∧ Keep [id] h h' ∧ RdAt h' id { r with e := e } := by
  obtain ⟨o, hr⟩ := hr
  have li := get_lt hr
  obtain ⟨h1, hh1⟩ : ∃ g, g = h ++ [AObj.arr [.ptr id 0] false] := ⟨_, rfl⟩
  obtain ⟨h2, hh2⟩ : ∃ g, g = h1 ++ [AObj.arr [(AV.str [])] false] := ⟨_, rfl⟩
  have l1 : h1.length = h.length + 1 := by rw [hh1]; simp
  have l2 : h2.length = h1.length + 1 := by rw [hh2]; simp
  have k1 : Keep [] h h1 := hh1 ▸ Keep.app
  have k2 : Keep [] h1 h2 := hh2 ▸ Keep.app
  obtain ⟨h3, hh3⟩ : ∃ g, g = h2 ++ [AObj.arr [.int .i64 r.p] false] := ⟨_, rfl⟩
  have k23 : Keep [] h2 h3 := hh3 ▸ Keep.app
  have k3 : Keep [] h h3 := (k1.trans k2).trans k23
  obtain ⟨h4, p', e4, k4, o4, r4⟩ := hf h3 o k3 (k3.get hr (by simp))
  have a1 : h2[h.length]? = some (.arr [.ptr id 0] false) := k2.get (hh1 ▸ get_new) (by simp)
  have z1 : h2[h1.length]? = some (.arr [(AV.str [])] false) := hh2 ▸ get_new
  have r1 : h2[id]? = some (.arr (r.cells o) false) := (k1.trans k2).get hr (by simp)
  have z4 := k4.get (k23.get z1 (by simp)) (by simp; omega)
  have a4 := k4.get (k23.get a1 (by simp)) (by simp; omega)
  have s4 := k4.get (j := h2.length) (show h3[h2.length]? = some (.arr [.int .i64 r.p] false) from hh3 ▸ get_new) (by simp; omega)
  obtain ⟨h5, e5, k5, r5, z5⟩ := cur_ask_string.dc_pan (call := D) (n := 1) (e := e) s4 z4 a4 r4 (by omega) (by omega) (by omega) (by omega) (by omega)
  have kk : Keep [id] h h5 := (Keep.trans (k3.nil.trans (k4.mono (ids' := [h1.length, id]) (by simp))) (k5.mono (by simp))).drop (by omega)
  refine ⟨h5, cur_ask_string.den 1 ?_ rfl, kk, o4, r5⟩
  rw [cur_ask_string.f_eq (cur_ask_string.fx 1)]
  rw [copy_ptr, bx_one (v := .ptr id 0) rfl]
  simp only [bind_some', cells_ptr]
  rw [← hh1, ← hh2]
  rw [ld_at a1, show ([AV.ptr id 0])[0]? = some (AV.ptr id 0) from rfl]
  simp only [bind_some', ptr_rd, eqv_ff, condV_false, nilOk_ptr, fAddr_ptr]
  rw [ld_at r1, show (r.cells o)[0 + 2]? = some (AV.int .i64 r.e) from rfl]
  simp only [bind_some', bin_neq, decide_eq_false (show ¬ ((r.e : Int) ≠ 0) by omega)]
  rw [cur_ask_string.j1_eq (cur_ask_string.fx 1)]
  simp only [condV_false]
  rw [cur_ask_string.j0_eq (cur_ask_string.fx 1)]
  rw [ld_at a1, show ([AV.ptr id 0])[0]? = some (AV.ptr id 0) from rfl]
  simp only [bind_some', nilOk_ptr, fAddr_ptr]
  rw [ld_at r1, show (r.cells o)[0 + 1]? = some (AV.int .i64 r.p) from rfl]
  simp only [bind_some', copy_int]
  have s1 := st_int (off := 0) (k := .i64) (z := r.p) (get_new (h := h2) (x := .arr [.int .i64 0] false)) (by simp)
  rw [set_new] at s1
  rw [s1]
  simp only [bind_some']
  have a2 : h3[h.length]? = some (.arr [.ptr id 0] false) := k23.get a1 (by simp)
  rw [show (h2 ++ [AObj.arr ([AV.int .i64 0].set 0 (AV.int .i64 r.p)) false]) = h3 from hh3.symm, ld_at a2, show ([AV.ptr id 0])[0]? = some (AV.ptr id 0) from rfl]
  simp only [bind_some', canon_ptr]
  rw [e4]
  simp only [bind_some', retOr_pan, copy_ptr]
  rw [e5]
  simp only [bind_some']
  rw [ld_at z5]
  rfl
end
section
end
end Go.Proofs.Ytficgmeakeiacaa

open Go Go.Ve Go.Proofs
namespace Go.Proofs.Ytficgmeakeiacaa
set_option maxRecDepth 100000
set_option linter.all false
abbrev brk (e : Nat) : AV := .iface t_cur_broken (.agg [.int .i64 e])
abbrev RdC (h : H) (id : Nat) (r : Rd) (o : Own) : Prop := h[id]? = some (.arr (r.cells o) false)
theorem cell0 (r : Rd) (o : Own) : (r.cells o)[0 + 0]? = some (BL r.b o) := rfl
theorem cell1 (r : Rd) (o : Own) : (r.cells o)[0 + 1]? = some (.int .i64 r.p) := rfl
theorem cell2 (r : Rd) (o : Own) : (r.cells o)[0 + 2]? = some (.int .i64 r.e) := rfl
theorem st_p {h : H} {id : Nat} {r : Rd} {o : Own} (hr : RdC h id r o) (p : Nat) : stN 1 h (.ptr id (0 + 1)) (.int .i64 p) = some (.undef, h.set id (.arr ({ r with p := p }.cells o) false)) := st_int (off := 1) hr (by simp [Rd.cells])
theorem st_e {h : H} {id : Nat} {r : Rd} {o : Own} (hr : RdC h id r o) (e : Nat) : stN 1 h (.ptr id (0 + 2)) (.int .i64 e) = some (.undef, h.set id (.arr ({ r with e := e }.cells o) false)) := st_int (off := 2) hr (by simp [Rd.cells])
theorem canon_func' {f : Fn} {id : Nat} : AV.canon (.func f [] [AV.copy (.ptr id 0)]) = .func f [] [.ptr id 0] := rfl
theorem number_den {h : H} {id : Nat} {r : Rd} {o : Own} (hr : RdC h id r o) (hk : r.ok) :
    D n_cur_Reader_number [.ptr id 0] h = if (lebG (r.b.drop r.p)).2.2 = 0 then some (.ret (.int .u64 (lebG (r.b.drop r.p)).1), h.set id (.arr ({ r with p := r.p + (lebG (r.b.drop r.p)).2.1 }.cells o) false)) else some (.pan (brk (lebG (r.b.drop r.p)).2.2), h) := by
  obtain ⟨h1, h2, h3⟩ := hk
  have f := lebG_facts (r.b.drop r.p)
  rw [List.length_drop] at f
  have step : ∀ {x : AEnd × H}, cur_Reader_number.f (cur_Reader_number.JD 1) (.ptr id 0) h = some x → retOk Try.f58 x.1 = true → D n_cur_Reader_number [.ptr id 0] h = some x := fun {x} e hx => cur_Reader_number.den 1 (r := x.1) (h' := x.2) e hx
  have e0 : cur_Reader_number.f (cur_Reader_number.JD 1) (.ptr id 0) h = if (lebG (r.b.drop r.p)).2.2 = 0 then some (.ret (.int .u64 (lebG (r.b.drop r.p)).1), h.set id (.arr ({ r with p := r.p + (lebG (r.b.drop r.p)).2.1 }.cells o) false)) else some (.pan (brk (lebG (r.b.drop r.p)).2.2), h) := by
    rw [cur_Reader_number.f_eq (cur_Reader_number.fx 1)]
    simp only [nilOk_ptr, fAddr_ptr, bind_some', ld_at hr, cell0, cell1, BL_from h1, BL_canon, leb_Get_den (r.b.drop r.p) (by rw [List.length_drop]; omega) h, retOr_ret, exTuple_eq]
    rw [show ([AV.int .u64 ((lebG (r.b.drop r.p)).1 : Int), .int .i64 ((lebG (r.b.drop r.p)).2.1 : Int), .int .i64 ((lebG (r.b.drop r.p)).2.2 : Int)])[0]? = some (.int .u64 ((lebG (r.b.drop r.p)).1 : Int)) from rfl, show ([AV.int .u64 ((lebG (r.b.drop r.p)).1 : Int), .int .i64 ((lebG (r.b.drop r.p)).2.1 : Int), .int .i64 ((lebG (r.b.drop r.p)).2.2 : Int)])[1]? = some (.int .i64 ((lebG (r.b.drop r.p)).2.1 : Int)) from rfl, show ([AV.int .u64 ((lebG (r.b.drop r.p)).1 : Int), .int .i64 ((lebG (r.b.drop r.p)).2.1 : Int), .int .i64 ((lebG (r.b.drop r.p)).2.2 : Int)])[2]? = some (.int .i64 ((lebG (r.b.drop r.p)).2.2 : Int)) from rfl]
    simp only [bind_some', bin_neq]
    by_cases he : (lebG (r.b.drop r.p)).2.2 = 0
    · rw [if_pos he]
      simp only [decide_eq_false (show ¬ (((lebG (r.b.drop r.p)).2.2 : Int) ≠ 0) by omega), condV_false]
      rw [cur_Reader_number.j0_eq (cur_Reader_number.fx 1)]
      simp only [nilOk_ptr, fAddr_ptr, bind_some', ld_at hr, cell1, bin_add, copy_int]
      rw [wrap_i64 (by omega) (by omega), show ((r.p : Int) + ((lebG (r.b.drop r.p)).2.1 : Int)) = ((r.p + (lebG (r.b.drop r.p)).2.1 : Nat) : Int) from rfl, st_p hr]
      rfl
    · rw [if_neg he]
      simp only [decide_eq_true (show (((lebG (r.b.drop r.p)).2.2 : Int) ≠ 0) by omega), condV_true]
      rfl
  by_cases he : (lebG (r.b.drop r.p)).2.2 = 0
  · rw [if_pos he] at e0 ⊢; exact step e0 rfl
  · rw [if_neg he] at e0 ⊢; exact step e0 rfl
theorem take_den {h : H} {id n : Nat} {r : Rd} {o : Own} (hr : RdC h id r o) (hk : r.ok) (hn : n ≤ 2 ^ 40) :
    D n_cur_Reader_take [.ptr id 0, .int .i64 n] h = if r.b.length - r.p < n then some (.pan (brk 10), h) else some (.ret (BL ((r.b.drop r.p).take n)), h.set id (.arr ({ r with p := r.p + n }.cells o) false)) := by
  obtain ⟨h1, h2, h3⟩ := hk
  have e0 : cur_Reader_take.f (cur_Reader_take.JD 1) (.ptr id 0) (.int .i64 n) h = if r.b.length - r.p < n then some (.pan (brk 10), h) else some (.ret (BL ((r.b.drop r.p).take n)), h.set id (.arr ({ r with p := r.p + n }.cells o) false)) := by
    rw [cur_Reader_take.f_eq (cur_Reader_take.fx 1)]
    simp only [nilOk_ptr, fAddr_ptr, bind_some', ld_at hr, cell0, cell1, BL_len, bin_sub, bin_gtr]
    rw [wrap_i64 (by omega) (by omega)]
    by_cases he : r.b.length - r.p < n
    · rw [if_pos he]
      simp only [decide_eq_true (show ((n : Int) > (r.b.length : Int) - (r.p : Int)) by omega), condV_true]
      rfl
    · rw [if_neg he]
      simp only [decide_eq_false (show ¬ ((n : Int) > (r.b.length : Int) - (r.p : Int)) by omega), condV_false]
      rw [cur_Reader_take.j0_eq (cur_Reader_take.fx 1)]
      simp only [nilOk_ptr, fAddr_ptr, bind_some', ld_at hr, cell1, bin_add, copy_int]
      rw [wrap_i64 (by omega) (by omega), show ((r.p : Int) + (n : Int)) = ((r.p + n : Nat) : Int) from rfl, st_p hr]
      have hr' : RdC (h.set id (.arr ({ r with p := r.p + n }.cells o) false)) id { r with p := r.p + n } o := get_set hr
      simp only [bind_some', ld_at hr', cell0, cell1, bin_sub]
      rw [show (((r.p + n : Nat) : Int) - (n : Int)) = ((r.p : Nat) : Int) by omega, wrap_i64 (by omega) (by omega), BL_both (by omega) (by omega)]
      rw [List.drop_take, show r.p + n - r.p = n by omega]
      rfl
  by_cases he : r.b.length - r.p < n
  · rw [if_pos he] at e0 ⊢; exact cur_Reader_take.den 1 e0 rfl
  · rw [if_neg he] at e0 ⊢; exact cur_Reader_take.den 1 e0 rfl
theorem upto_den {h : H} {id m : Nat} {r : Rd} {o : Own} (hr : RdC h id r o) (hk : r.ok) (hm : m ≤ 2 ^ 40) :
    ∃ h', Keep [id] h h' ∧ (if (lebG (r.b.drop r.p)).2.2 ≠ 0 then D n_cur_Reader_upto [.ptr id 0, .int .i64 m] h = some (.pan (brk (lebG (r.b.drop r.p)).2.2), h') ∧ RdC h' id r o
      else RdC h' id { r with p := r.p + (lebG (r.b.drop r.p)).2.1 } o ∧ D n_cur_Reader_upto [.ptr id 0, .int .i64 m] h = if m < (lebG (r.b.drop r.p)).1 then some (.pan (brk 3), h') else some (.ret (.int .i64 (lebG (r.b.drop r.p)).1), h')) := by
  have f := lebG_facts (r.b.drop r.p)
  have en := number_den hr hk
  by_cases he : (lebG (r.b.drop r.p)).2.2 = 0
  · rw [if_pos he] at en
    refine ⟨h.set id (.arr ({ r with p := r.p + (lebG (r.b.drop r.p)).2.1 }.cells o) false), .set (by simp), ?_⟩
    rw [if_neg (by omega)]
    refine ⟨get_set hr, ?_⟩
    have e0 : cur_Reader_upto.f (cur_Reader_upto.JD 1) (.ptr id 0) (.int .i64 m) h = if m < (lebG (r.b.drop r.p)).1 then some (.pan (brk 3), h.set id (.arr ({ r with p := r.p + (lebG (r.b.drop r.p)).2.1 }.cells o) false)) else some (.ret (.int .i64 (lebG (r.b.drop r.p)).1), h.set id (.arr ({ r with p := r.p + (lebG (r.b.drop r.p)).2.1 }.cells o) false)) := by
      rw [cur_Reader_upto.f_eq (cur_Reader_upto.fx 1)]
      simp only [canon_ptr, en, bind_some', retOr_ret, bin_lss, decide_eq_false (show ¬ ((m : Int) < 0) by omega), condV_false, cvInt_int, wrap_u64 (show (0 : Int) ≤ (m : Int) by omega) (show (m : Int) ≤ 18446744073709551615 by omega), bin_gtr]
      rw [cur_Reader_upto.j0_eq (cur_Reader_upto.fx 1)]
      by_cases hx : m < (lebG (r.b.drop r.p)).1
      · simp only [if_pos hx, decide_eq_true (show (((lebG (r.b.drop r.p)).1 : Int) > (m : Int)) by omega), condV_true]
        rfl
      · simp only [if_neg hx, decide_eq_false (show ¬ (((lebG (r.b.drop r.p)).1 : Int) > (m : Int)) by omega), condV_false, cvInt_int, bind_some']
        rw [wrap_i64 (by omega) (by omega)]
    by_cases hx : m < (lebG (r.b.drop r.p)).1
    · rw [if_pos hx] at e0 ⊢; exact cur_Reader_upto.den 1 e0 rfl
    · rw [if_neg hx] at e0 ⊢; exact cur_Reader_upto.den 1 e0 rfl
  · rw [if_neg he] at en
    refine ⟨h, .refl _ _, ?_⟩
    rw [if_pos he]
    refine ⟨cur_Reader_upto.den 1 ?_ rfl, hr⟩
    rw [cur_Reader_upto.f_eq (cur_Reader_upto.fx 1)]
    simp only [canon_ptr, en, bind_some', retOr_pan]
theorem cntR_den {h : H} {id m : Nat} {r : Rd} (hr : RdAt h id r) (hk : r.ok) (hm : m ≤ 2 ^ 40) : ∃ h', D n_cur_Reader_Count [.ptr id 0, .int .i64 m] h = some (.ret (.int .i64 (rdN m r).1), h') ∧ Keep [id] h h' ∧ RdAt h' id (rdN m r).2 := by
  have li := hr.lt
  obtain ⟨g, hg⟩ : ∃ g, g = h ++ [AObj.arr [.int .i64 m] false] := ⟨_, rfl⟩
  have kg : Keep [] h g := hg ▸ Keep.app
  have mg : g[h.length]? = some (.arr [.int .i64 m] false) := hg ▸ get_new
  have rg : RdAt g id r := kg.rd hr (by simp)
  have step : ∀ {v : AV} {h' : H}, D n_cur_ask_int [.ptr id 0, .func (.func n_cur_Reader_Count_c1) [] [.ptr h.length 0]] g = some (.ret v, h') → retOk Try.f28 (.ret v) = true → D n_cur_Reader_Count [.ptr id 0, .int .i64 m] h = some (.ret v, h') := by
    intro v h' e hv
    refine cur_Reader_Count.den 1 ?_ hv
    rw [cur_Reader_Count.f_eq (cur_Reader_Count.fx 1)]
    rw [copy_int, bx_one (v := .int .i64 m) rfl]
    simp only [bind_some', cells_int, canon_ptr]
    rw [← hg, canon_func', e]
    simp only [bind_some', retOr_ret]
  have inner : ∀ h1 o, Keep [] g h1 → RdC h1 id r o → (∀ {v : AV} {h2 : H}, D n_cur_Reader_upto [.ptr id 0, .int .i64 m] h1 = some (.ret v, h2) → retOk Try.f46 (.ret v) = true → callVal D h1 (.func (.func n_cur_Reader_Count_c1) [] [.ptr h.length 0]) [.ptr id 0] = some (.ret v, h2)) ∧ (∀ {v : AV} {h2 : H}, D n_cur_Reader_upto [.ptr id 0, .int .i64 m] h1 = some (.pan v, h2) → retOk Try.f46 (.pan v) = true → callVal D h1 (.func (.func n_cur_Reader_Count_c1) [] [.ptr h.length 0]) [.ptr id 0] = some (.pan v, h2)) := by
    intro h1 o k1 r1
    have m1 := k1.get mg (by simp)
    constructor
    · intro v h2 e hv
      refine cur_Reader_Count_c1.den 1 ?_ hv
      rw [cur_Reader_Count_c1.f_eq (cur_Reader_Count_c1.fx 1), ld_at m1, show ([AV.int .i64 (m : Int)])[0]? = some (.int .i64 (m : Int)) from rfl]
      simp only [bind_some', canon_ptr, canon_int, e, retOr_ret]
    · intro v h2 e hv
      refine cur_Reader_Count_c1.den 1 ?_ hv
      rw [cur_Reader_Count_c1.f_eq (cur_Reader_Count_c1.fx 1), ld_at m1, show ([AV.int .i64 (m : Int)])[0]? = some (.int .i64 (m : Int)) from rfl]
      simp only [bind_some', canon_ptr, canon_int, e, retOr_pan]
  unfold rdN
  by_cases he : r.e = 0
  · rw [if_neg (by omega)]
    by_cases hl : (lebG (r.b.drop r.p)).2.2 = 0
    · rw [if_neg (by omega)]
      by_cases hx : m < (lebG (r.b.drop r.p)).1
      · rw [if_pos hx]
        obtain ⟨h', e', k', r'⟩ := cur_ask_int_pan (.func (.func n_cur_Reader_Count_c1) [] [.ptr h.length 0]) 3 rg he fun h1 o k1 r1 => by
          obtain ⟨h2, k2, e2⟩ := upto_den r1 hk hm
          rw [if_neg (by omega), if_pos hx] at e2
          exact ⟨h2, _, (inner h1 o k1 r1).2 e2.2 rfl, k2, o, e2.1⟩
        exact ⟨h', step e' rfl, kg.nil.trans k', r'⟩
      · rw [if_neg hx]
        obtain ⟨h', e', k', r'⟩ := cur_ask_int_ok (r' := { r with p := r.p + (lebG (r.b.drop r.p)).2.1 }) (.func (.func n_cur_Reader_Count_c1) [] [.ptr h.length 0]) (lebG (r.b.drop r.p)).1 rg he fun h1 o k1 r1 => by
          obtain ⟨h2, k2, e2⟩ := upto_den r1 hk hm
          rw [if_neg (by omega), if_neg hx] at e2
          exact ⟨h2, (inner h1 o k1 r1).1 e2.2 rfl, k2, o, e2.1⟩
        exact ⟨h', step e' rfl, kg.nil.trans k', r'⟩
    · rw [if_pos hl]
      obtain ⟨h', e', k', r'⟩ := cur_ask_int_pan (.func (.func n_cur_Reader_Count_c1) [] [.ptr h.length 0]) (lebG (r.b.drop r.p)).2.2 rg he fun h1 o k1 r1 => by
        obtain ⟨h2, k2, e2⟩ := upto_den r1 hk hm
        rw [if_pos hl] at e2
        exact ⟨h2, r.p, (inner h1 o k1 r1).2 e2.1 rfl, k2, o, e2.2⟩
      exact ⟨h', step e' rfl, kg.nil.trans k', r'⟩
  · rw [if_pos he]
    obtain ⟨h', e', k', r'⟩ := cur_ask_int_bad (.func (.func n_cur_Reader_Count_c1) [] [.ptr h.length 0]) rg he
    exact ⟨h', step e' rfl, (kg.trans k').nil, r'⟩
end Go.Proofs.Ytficgmeakeiacaa

open Go Go.Ve Go.Proofs
namespace Go.Proofs.Ytficgmeakeiacaa
set_option maxRecDepth 100000
set_option linter.all false
theorem textR_den {h : H} {id m : Nat} {r : Rd} (hr : RdAt h id r) (hk : r.ok) (hm : m ≤ 2 ^ 40) : ∃ h', D n_cur_Reader_Text [.ptr id 0, .int .i64 m] h = some (.ret (.str (rdT m r).1), h') ∧ Keep [id] h h' ∧ RdAt h' id (rdT m r).2 := by
  have li := hr.lt
  have f := lebG_facts (r.b.drop r.p)
  rw [List.length_drop] at f
  obtain ⟨g, hg⟩ : ∃ g, g = h ++ [AObj.arr [.int .i64 m] false] := ⟨_, rfl⟩
  have kg : Keep [] h g := hg ▸ Keep.app
  have mg : g[h.length]? = some (.arr [.int .i64 m] false) := hg ▸ get_new
  have rg : RdAt g id r := kg.rd hr (by simp)
  have step : ∀ {v : AV} {h' : H}, D n_cur_ask_string [.ptr id 0, .func (.func n_cur_Reader_Text_c1) [] [.ptr h.length 0]] g = some (.ret v, h') → retOk Try.f48 (.ret v) = true → D n_cur_Reader_Text [.ptr id 0, .int .i64 m] h = some (.ret v, h') := by
    intro v h' e hv
    refine cur_Reader_Text.den 1 ?_ hv
    rw [cur_Reader_Text.f_eq (cur_Reader_Text.fx 1)]
    rw [copy_int, bx_one (v := .int .i64 m) rfl]
    simp only [bind_some', cells_int, canon_ptr]
    rw [← hg, canon_func', e]
    simp only [bind_some', retOr_ret]
  have body : ∀ {h1 : H} {v : AEnd} {h2 : H}, Keep [] g h1 → cur_Reader_Text_c1.f (cur_Reader_Text_c1.JD 1) (.ptr id 0) (.ptr h.length 0) h1 = some (v, h2) → retOk Try.f60 v = true → callVal D h1 (.func (.func n_cur_Reader_Text_c1) [] [.ptr h.length 0]) [.ptr id 0] = some (v, h2) := fun {h1 v h2} k1 e hv => cur_Reader_Text_c1.den 1 e hv
  unfold rdT
  by_cases he : r.e = 0
  · rw [if_neg (by omega)]
    by_cases hl : (lebG (r.b.drop r.p)).2.2 = 0
    · rw [if_neg (by omega)]
      by_cases hx : m < (lebG (r.b.drop r.p)).1
      · rw [if_pos hx]
        obtain ⟨h', e', k', r'⟩ := cur_ask_string_pan (.func (.func n_cur_Reader_Text_c1) [] [.ptr h.length 0]) 3 rg he fun h1 o k1 r1 => by
          obtain ⟨h2, k2, e2⟩ := upto_den r1 hk hm
          rw [if_neg (by omega), if_pos hx] at e2
          refine ⟨h2, _, body (v := .pan (brk 3)) k1 ?_ rfl, k2, o, e2.1⟩
          rw [cur_Reader_Text_c1.f_eq (cur_Reader_Text_c1.fx 1), ld_at (k1.get mg (by simp)), show ([AV.int .i64 (m : Int)])[0]? = some (.int .i64 (m : Int)) from rfl]
          simp only [bind_some', canon_ptr, canon_int, e2.2, retOr_pan]
        exact ⟨h', step e' rfl, kg.nil.trans k', r'⟩
      · rw [if_neg hx]
        by_cases hy : r.b.length - (r.p + (lebG (r.b.drop r.p)).2.1) < (lebG (r.b.drop r.p)).1
        · rw [if_pos hy]
          obtain ⟨h', e', k', r'⟩ := cur_ask_string_pan (.func (.func n_cur_Reader_Text_c1) [] [.ptr h.length 0]) 10 rg he fun h1 o k1 r1 => by
            obtain ⟨h2, k2, e2⟩ := upto_den r1 hk hm
            rw [if_neg (by omega), if_neg hx] at e2
            have e3 := take_den (n := (lebG (r.b.drop r.p)).1) e2.1 ⟨by show r.p + _ ≤ r.b.length; omega, hk.2.1, hk.2.2⟩ (by omega)
            rw [if_pos hy] at e3
            refine ⟨h2, _, body (v := .pan (brk 10)) k1 ?_ rfl, k2, o, e2.1⟩
            rw [cur_Reader_Text_c1.f_eq (cur_Reader_Text_c1.fx 1), ld_at (k1.get mg (by simp)), show ([AV.int .i64 (m : Int)])[0]? = some (.int .i64 (m : Int)) from rfl]
            simp only [bind_some', canon_ptr, canon_int, e2.2, retOr_ret, e3, retOr_pan]
          exact ⟨h', step e' rfl, kg.nil.trans k', r'⟩
        · rw [if_neg hy]
          obtain ⟨h', e', k', r'⟩ := cur_ask_string_ok (r' := { r with p := r.p + (lebG (r.b.drop r.p)).2.1 + (lebG (r.b.drop r.p)).1 }) (.func (.func n_cur_Reader_Text_c1) [] [.ptr h.length 0]) ((r.b.drop (r.p + (lebG (r.b.drop r.p)).2.1)).take (lebG (r.b.drop r.p)).1) rg he fun h1 o k1 r1 => by
            obtain ⟨h2, k2, e2⟩ := upto_den r1 hk hm
            rw [if_neg (by omega), if_neg hx] at e2
            have e3 := take_den (n := (lebG (r.b.drop r.p)).1) e2.1 ⟨by show r.p + _ ≤ r.b.length; omega, hk.2.1, hk.2.2⟩ (by omega)
            rw [if_neg hy] at e3
            refine ⟨_, body (v := .ret (.str _)) k1 ?_ rfl, k2.trans (.set (by simp)), o, get_set e2.1⟩
            rw [cur_Reader_Text_c1.f_eq (cur_Reader_Text_c1.fx 1), ld_at (k1.get mg (by simp)), show ([AV.int .i64 (m : Int)])[0]? = some (.int .i64 (m : Int)) from rfl]
            simp only [bind_some', canon_ptr, canon_int, e2.2, retOr_ret, e3, BL_toStr]
          exact ⟨h', step e' rfl, kg.nil.trans k', r'⟩
    · rw [if_pos hl]
      obtain ⟨h', e', k', r'⟩ := cur_ask_string_pan (.func (.func n_cur_Reader_Text_c1) [] [.ptr h.length 0]) (lebG (r.b.drop r.p)).2.2 rg he fun h1 o k1 r1 => by
        obtain ⟨h2, k2, e2⟩ := upto_den r1 hk hm
        rw [if_pos hl] at e2
        refine ⟨h2, r.p, body (v := .pan (brk _)) k1 ?_ rfl, k2, o, e2.2⟩
        rw [cur_Reader_Text_c1.f_eq (cur_Reader_Text_c1.fx 1), ld_at (k1.get mg (by simp)), show ([AV.int .i64 (m : Int)])[0]? = some (.int .i64 (m : Int)) from rfl]
        simp only [bind_some', canon_ptr, canon_int, e2.1, retOr_pan]
      exact ⟨h', step e' rfl, kg.nil.trans k', r'⟩
  · rw [if_pos he]
    obtain ⟨h', e', k', r'⟩ := cur_ask_string_bad (.func (.func n_cur_Reader_Text_c1) [] [.ptr h.length 0]) rg he
    exact ⟨h', step e' rfl, (kg.trans k').nil, r'⟩
theorem atR_den {h : H} {id : Nat} {r : Rd} (hr : RdAt h id r) : D n_cur_Reader_At [.ptr id 0] h = some (.ret (.int .i64 r.p), h) := by
  obtain ⟨o, hr⟩ := hr
  refine cur_Reader_At.den 1 ?_ rfl
  rw [cur_Reader_At.f_eq (cur_Reader_At.fx 1)]
  simp only [ptr_rd, eqv_ff, bind_some', condV_false, nilOk_ptr, fAddr_ptr, ld_at hr, cell1, copy_int]
theorem errR_den {h : H} {id : Nat} {r : Rd} (hr : RdAt h id r) : D n_cur_Reader_Err [.ptr id 0] h = some (.ret (.int .i64 r.e), h) := by
  obtain ⟨o, hr⟩ := hr
  refine cur_Reader_Err.den 1 ?_ rfl
  rw [cur_Reader_Err.f_eq (cur_Reader_Err.fx 1)]
  simp only [ptr_rd, eqv_ff, bind_some', condV_false, nilOk_ptr, fAddr_ptr, ld_at hr, cell2, copy_int]
theorem leftR_den {h : H} {id : Nat} {r : Rd} (hr : RdAt h id r) (hk : r.ok) : D n_cur_Reader_Left [.ptr id 0] h = some (.ret (.int .i64 (if r.e = 0 then r.b.length - r.p else 0 : Nat)), h) := by
  obtain ⟨o, hr⟩ := hr
  have := hk.1
  have := hk.2.1
  refine cur_Reader_Left.den 1 ?_ rfl
  rw [cur_Reader_Left.f_eq (cur_Reader_Left.fx 1)]
  simp only [ptr_rd, eqv_ff, bind_some', condV_false, nilOk_ptr, fAddr_ptr, ld_at hr, cell2, bin_neq]
  rw [cur_Reader_Left.j1_eq (cur_Reader_Left.fx 1)]
  by_cases he : r.e = 0
  · simp only [if_pos he, decide_eq_false (show ¬ ((r.e : Int) ≠ 0) by omega), condV_false]
    rw [cur_Reader_Left.j0_eq (cur_Reader_Left.fx 1)]
    simp only [bind_some', nilOk_ptr, fAddr_ptr, ld_at hr, cell0, cell1, BL_len, bin_sub, copy_int]
    rw [wrap_i64 (by omega) (by omega), show ((r.b.length : Int) - (r.p : Int)) = ((r.b.length - r.p : Nat) : Int) by omega]
  · simp only [if_neg he, decide_eq_true (show ((r.e : Int) ≠ 0) by omega), condV_true]
    rfl
theorem endR_den {h : H} {id : Nat} {r : Rd} (hr : RdAt h id r) (hk : r.ok) : ∃ h', D n_cur_Reader_End [.ptr id 0] h = some (.ret (.tuple []), h') ∧ Keep [id] h h' ∧ RdAt h' id (rdE r) := by
  have el := leftR_den hr hk
  obtain ⟨o, hr⟩ := hr
  unfold rdE
  by_cases hc : r.e = 0 ∧ r.p < r.b.length
  · rw [if_pos hc]
    rw [if_pos hc.1] at el
    have ef : D n_cur_Reader_Fail [.ptr id 0, .int .i64 3] h = some (.ret (.tuple []), h.set id (.arr ({ r with e := 3 }.cells o) false)) := by
      refine cur_Reader_Fail.den 1 ?_ rfl
      rw [cur_Reader_Fail.f_eq (cur_Reader_Fail.fx 1)]
      simp only [bin_eql, bind_some']
      rw [show decide ((3 : Int) = 0) = false from rfl, condV_false, cur_Reader_Fail.j0_eq (cur_Reader_Fail.fx 1)]
      simp only [ptr_rd, eqv_tf, bind_some', condV_true, nilOk_ptr, fAddr_ptr, ld_at hr, cell2, bin_eql, decide_eq_true (show ((r.e : Int) = 0) by omega)]
      rw [cur_Reader_Fail.j1_eq (cur_Reader_Fail.fx 1)]
      have e3 := st_e hr 3
      rw [show (((3 : Nat) : Int)) = 3 from rfl] at e3
      simp only [condV_true, nilOk_ptr, fAddr_ptr, bind_some', copy_int, e3]
    refine ⟨_, cur_Reader_End.den 1 ?_ rfl, .set (by simp), o, get_set hr⟩
    rw [cur_Reader_End.f_eq (cur_Reader_End.fx 1)]
    simp only [canon_ptr, canon_int, el, bind_some', retOr_ret, bin_gtr, decide_eq_true (show ((r.b.length - r.p : Nat) : Int) > 0 by omega), condV_true, ef]
  · rw [if_neg hc]
    refine ⟨h, cur_Reader_End.den 1 ?_ rfl, .refl _ _, o, hr⟩
    rw [cur_Reader_End.f_eq (cur_Reader_End.fx 1)]
    simp only [canon_ptr, canon_int, el, bind_some', retOr_ret, bin_gtr]
    rw [decide_eq_false (by split <;> omega), condV_false]
theorem from_den (h : H) (l : List UInt8) (o : Own) (hl : l.length ≤ 2 ^ 32) : ∃ h', D n_cur_From [BL l o] h = some (.ret (.ptr h.length 0), h') ∧ Keep [] h h' ∧ RdAt h' h.length ⟨l, 0, 0⟩ := by
  refine ⟨_, cur_From.den 1 ?_ rfl, .app, .no, get_new⟩
  rw [cur_From.f_eq (cur_From.fx 1)]
  simp only [BL_canon, clone_byte l .no (by omega), bind_some', retOr_ret, copy_own]
  rw [show mkAgg [.list [] .cap, .int .i64 0, .int .i64 0] [(0, 1, .list (l.map byteRow) .no)] = some (.agg [BL l, .int .i64 0, .int .i64 0]) from rfl]
  simp only [bind_some']
  rw [bx_agg (cs := [BL l, .int .i64 0, .int .i64 0]) rfl]
  rfl
end Go.Proofs.Ytficgmeakeiacaa
