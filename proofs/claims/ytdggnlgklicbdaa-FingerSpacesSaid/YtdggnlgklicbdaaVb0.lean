import Derived.Test.YtdggnlgklicbdaaP2Ext
import Derived.Test.YtdggnlgklicbdaaVa5
import Derived.Test.YtdggnlgklicbdaaP2Pol
set_option linter.all false
open Go Go.Ve Go.Proofs
namespace Go.Proofs.Ytdggnlgklicbdaa
set_option maxRecDepth 100000
set_option linter.all false
theorem word_chk : (List.range 256).all (fun n => isB (wordB (UInt8.ofNat n)) (acall Try.prog pol 8 n_warrantorref18_word [.int .u8 (n : Int)] [])) = true := by kernel_rfl
theorem word_tab (c : UInt8) (h : H) : D n_warrantorref18_word [bv c] h = some (.ret (.bool (wordB c)), h) := by
  have h1 := List.all_eq_true.mp word_chk c.toNat (List.mem_range.mpr c.toNat_lt)
  simp only [UInt8.ofNat_toNat] at h1
  obtain ⟨h', h2⟩ := isB_some h1
  exact den_any (by kernel_rfl) (acall_den _ _ _ _ _ h2) h
end Go.Proofs.Ytdggnlgklicbdaa

open Go Go.Ve Go.Proofs
namespace Go.Proofs.Ytdggnlgklicbdaa
set_option maxRecDepth 100000
set_option linter.all false
theorem leb_loop {J : Jn (AEnd × H)} {k : Nat} (hJ : leb_Put.F D k J) (h : H) : ∀ (m n : Nat) (acc : List UInt8), n < 128 ^ (m + 1) → n < 2 ^ 64 → acc.length + m ≤ 1000000 →
    leb_Put.l0 J (m + 1) (.int .u64 n) (BL acc (.own 1)) h = some (.ret (BL (acc ++ lebB n) (.own 1)), h) := by
  intro m
  induction m with
  | zero =>
    intro n acc hn _ ha
    rw [leb_Put.l0_eq hJ, lebB_small (by omega)]
    have a1 := BL_app (l := acc) (l' := [UInt8.ofNat n]) (o := .own 1) (o' := .cap) (owned := true) (h := h) rfl (by simp; omega)
    simp only [bin_geq, bind_some', decide_eq_false (show ¬ ((n : Int) ≥ 128) by omega), condV_false, cv_u8, row1, a1]
  | succ m ih =>
    intro n acc hn h64 ha
    rw [leb_Put.l0_eq hJ]
    by_cases hs : n < 128
    · rw [lebB_small hs]
      have a1 := BL_app (l := acc) (l' := [UInt8.ofNat n]) (o := .own 1) (o' := .cap) (owned := true) (h := h) rfl (by simp; omega)
      simp only [bin_geq, bind_some', decide_eq_false (show ¬ ((n : Int) ≥ 128) by omega), condV_false, cv_u8, row1, a1]
    · rw [lebB_big hs]
      have a1 := BL_app (l := acc) (l' := [UInt8.ofNat (n % 128 + 128)]) (o := .own 1) (o' := .cap) (owned := true) (h := h) rfl (by simp; omega)
      have e : (UInt8.ofNat n).toNat % 128 = n % 128 := by rw [UInt8.toNat_ofNat']; omega
      have sh := shr_u64 (n := n) (k := 7) (by decide)
      have ih' := ih (n / 128) (acc ++ [UInt8.ofNat (n % 128 + 128)]) (Nat.div_lt_of_lt_mul (by rw [Nat.mul_comm, ← Nat.pow_succ]; exact hn)) (by omega) (by simp only [List.length_append, List.length_cons, List.length_nil]; omega)
      rw [List.append_assoc] at ih'
      simp only [bin_geq, bind_some', decide_eq_true (show ((n : Int) ≥ 128) by omega), condV_true, cv_u8, or_128, e, row1, a1]
      rw [show (.int .u64 7 : AV) = .int .u64 ((7 : Nat) : Int) from rfl, sh]
      exact ih'
theorem leb_Put_den (n : Nat) (hn : n < 2 ^ 64) (h : H) : D n_leb_Put [.int .u64 n] h = some (.ret (BL (lebB n) (.own 1)), h) := by
  refine leb_Put.den 10 (by simp) (h' := []) ?_ (by simp [AV.pure]) rfl
  rw [leb_Put.f_eq (leb_Put.fx 10)]
  have m1 : mkSlice 1 1 [.int .u8 0] true ([] : H) (.int .i64 0) (.int .i64 10) = some (BL [] (.own 1), []) := rfl
  simp only [m1, bind_some']
  have := leb_loop (leb_Put.fx 10) [] 9 n [] (by omega) hn (by simp)
  rw [List.nil_append] at this
  exact this
end Go.Proofs.Ytdggnlgklicbdaa

open Go Go.Ve Go.Proofs
namespace Go.Proofs.Ytdggnlgklicbdaa
set_option maxRecDepth 100000
set_option linter.all false
end Go.Proofs.Ytdggnlgklicbdaa

open Go Go.Ve Go.Proofs
namespace Go.Proofs.Ytdggnlgklicbdaa
set_option maxRecDepth 100000
set_option linter.all false
theorem ptr_pen (id : Nat) : aeq Try.prog 20 101 (.ptr id 0) .nilPtr = some false := by kernel_rfl
theorem eqv_tf : eqv true (some false) = some (.bool true) := rfl
theorem eqv_ff : eqv false (some false) = some (.bool false) := rfl
def PenAt (h : H) (id : Nat) (b : List UInt8) : Prop := ∃ o, mayApp o 1 true = true ∧ h[id]? = some (.arr [BL b o] false)
theorem PenAt.lt {h : H} {id : Nat} {b : List UInt8} (hr : PenAt h id b) : id < h.length := get_lt hr.choose_spec.2
theorem new_den (h : H) : ∃ h', D n_cur_New [] h = some (.ret (.ptr h.length 0), h') ∧ Keep [] h h' ∧ PenAt h' h.length [] := by
  refine ⟨h ++ [.arr [.list [] .cap] false], cur_New.den 1 ?_ rfl, .app, .cap, rfl, get_new⟩
  rw [cur_New.f_eq (cur_New.fx 1)]
  rw [show mkAgg [.list [] .cap] [] = some (.agg [.list [] .cap]) from rfl]
  simp only [bind_some', bx_agg (cs := [.list [] .cap]) rfl]
  rfl
theorem put_den (h : H) (id : Nat) (b l : List UInt8) (o : Own) (hp : PenAt h id b) (hl : b.length + l.length ≤ 2 ^ 40) : ∃ h', D n_cur_Pen_put [.ptr id 0, BL l o] h = some (.ret (.tuple []), h') ∧ Keep [id] h h' ∧ PenAt h' id (b ++ l) := by
  obtain ⟨o', ho, hp⟩ := hp
  have e1 := ldTake_list (off := 0) hp rfl
  have hp1 := get_set (y := .arr [AV.copy (BL b o')] false) hp
  refine ⟨_, cur_Pen_put.den 1 ?_ rfl, (Keep.set (by simp)).trans (.set (by simp)), .own 1, rfl, get_set hp1⟩
  rw [cur_Pen_put.f_eq (cur_Pen_put.fx 1)]
  simp only [ptr_pen, eqv_tf, bind_some', condV_true, nilOk_ptr, fAddr_ptr, e1, BL_app ho hl]
  have e2 := st_list (off := 0) (rows := (b ++ l).map byteRow) (o := .own 1) hp1 (by simp)
  rw [show (BL (b ++ l) (.own 1)) = .list ((b ++ l).map byteRow) (.own 1) from rfl]
  simp only [List.set_cons_zero] at e2 ⊢
  rw [e2]
  rfl
theorem penU_den (h : H) (id n : Nat) (b : List UInt8) (hp : PenAt h id b) (hn : n < 2 ^ 64) (hl : b.length + 10 ≤ 2 ^ 40) : ∃ h', D n_cur_Pen_U [.ptr id 0, .int .u64 n] h = some (.ret (.tuple []), h') ∧ Keep [id] h h' ∧ PenAt h' id (b ++ lebB n) := by
  have := lebB_10 hn
  obtain ⟨h', e, k, p⟩ := put_den h id b (lebB n) .no hp (by omega)
  refine ⟨h', cur_Pen_U.den 1 ?_ rfl, k, p⟩
  rw [cur_Pen_U.f_eq (cur_Pen_U.fx 1)]
  simp only [canon_int, leb_Put_den n hn, bind_some', retOr_ret, canon_ptr, BL_canon, e]
def txB (s : List UInt8) : List UInt8 := lebB s.length ++ s
theorem penText_den (h : H) (id : Nat) (b s : List UInt8) (hp : PenAt h id b) (hl : b.length + s.length + 20 ≤ 2 ^ 40) : ∃ h', D n_cur_Pen_Text [.ptr id 0, .str s] h = some (.ret (.tuple []), h') ∧ Keep [id] h h' ∧ PenAt h' id (b ++ txB s) := by
  have h10 := lebB_10 (n := s.length) (by omega)
  obtain ⟨h1, e1, k1, p1⟩ := penU_den h id s.length b hp (by omega) (by omega)
  obtain ⟨h2, e2, k2, p2⟩ := put_den h1 id (b ++ lebB s.length) s .no p1 (by simp; omega)
  refine ⟨h2, cur_Pen_Text.den 1 ?_ rfl, k1.trans k2, by rw [txB, ← List.append_assoc]; exact p2⟩
  rw [cur_Pen_Text.f_eq (cur_Pen_Text.fx 1)]
  simp only [lnStr_str, bind_some', cvInt_int, wrap_u64 (show (0 : Int) ≤ (s.length : Int) by omega) (show (s.length : Int) ≤ 18446744073709551615 by omega), canon_int, canon_ptr, e1, retOr_ret, BL_str, BL_canon, e2]
theorem penBytes_den (h : H) (id : Nat) (b : List UInt8) (hp : PenAt h id b) (hl : b.length ≤ 2 ^ 40) : D n_cur_Pen_Bytes [.ptr id 0] h = some (.ret (BL b (.own 1)), h) := by
  obtain ⟨o, ho, hp⟩ := hp
  refine cur_Pen_Bytes.den 1 ?_ rfl
  rw [cur_Pen_Bytes.f_eq (cur_Pen_Bytes.fx 1)]
  simp only [ptr_pen, eqv_ff, bind_some', condV_false, nilOk_ptr, fAddr_ptr, ld_at hp]
  rw [show ([BL b o])[0 + 0]? = some (BL b o) from rfl]
  simp only [bind_some', BL_canon, clone_byte b .no hl, retOr_ret]
end Go.Proofs.Ytdggnlgklicbdaa

open Go Go.Ve Go.Proofs
namespace Go.Proofs.Ytdggnlgklicbdaa
set_option maxRecDepth 100000
set_option linter.all false
theorem lssN {k : IntKind} (n m : Nat) : bin .lss (.int k (n : Int)) (.int k (m : Int)) = some (.bool (decide (n < m))) := by rw [bin_lss]; congr 2; exact decide_eq_decide.2 (by omega)
theorem leqN {k : IntKind} (n m : Nat) : bin .leq (.int k (n : Int)) (.int k (m : Int)) = some (.bool (decide (n ≤ m))) := by rw [bin_leq]; congr 2; exact decide_eq_decide.2 (by omega)
theorem gtrN {k : IntKind} (n m : Nat) : bin .gtr (.int k (n : Int)) (.int k (m : Int)) = some (.bool (decide (m < n))) := by rw [bin_gtr]; congr 2; exact decide_eq_decide.2 (by omega)
theorem neqN {k : IntKind} (n m : Nat) : bin .neq (.int k (n : Int)) (.int k (m : Int)) = some (.bool (decide (n ≠ m))) := by rw [bin_neq]; congr 2; exact decide_eq_decide.2 (by omega)
theorem addN {i j : Nat} (hi : i < 2 ^ 60) (hj : j < 2 ^ 60) : bin .add (.int .i64 (i : Int)) (.int .i64 (j : Int)) = some (.int .i64 ((i + j : Nat) : Int)) := by
  rw [bin_add, wrap_i64 (by omega) (by omega)]; rfl
theorem add1 (i : Nat) (hi : i < 2 ^ 60) : bin .add (.int .i64 (i : Int)) (.int .i64 1) = some (.int .i64 ((i + 1 : Nat) : Int)) := addN hi (j := 1) (by decide)
theorem subN {i j : Nat} (hi : i < 2 ^ 60) (hj : j ≤ i) : bin .sub (.int .i64 (i : Int)) (.int .i64 (j : Int)) = some (.int .i64 ((i - j : Nat) : Int)) := by
  rw [bin_sub, wrap_i64 (by omega) (by omega)]
  congr 2
  omega
theorem sub1 {i : Nat} (hi : i < 2 ^ 60) (h0 : 1 ≤ i) : bin .sub (.int .i64 (i : Int)) (.int .i64 1) = some (.int .i64 ((i - 1 : Nat) : Int)) := subN hi h0
theorem not_bool (b : Bool) : unOp .not (.bool b) = some (.bool (!b)) := rfl
theorem half (i j : Nat) (hi : i < 2 ^ 60) (hj : j < 2 ^ 60) : ∃ v3 v4 v5, bin .add (.int .i64 (i : Int)) (.int .i64 (j : Int)) = some v3 ∧ cvInt .u64 v3 = some v4 ∧ bin .shr v4 (.int .u64 1) = some v5 ∧ cvInt .i64 v5 = some (.int .i64 (((i + j) / 2 : Nat) : Int)) := by
  have e3 := shr_u64 (n := i + j) (k := 1) (by decide)
  rw [show (((1 : Nat) : Int)) = 1 from rfl, show (2 : Nat) ^ 1 = 2 from rfl] at e3
  refine ⟨_, _, _, addN hi hj, ?_, e3, ?_⟩
  · rw [cvInt_int, wrap_u64 (by omega) (by omega)]
  · have hz : (i + j) / 2 ≤ i + j := Nat.div_le_self _ _
    generalize (i + j) / 2 = z at hz ⊢
    rw [cvInt_int, wrap_i64 (by omega) (by omega)]
abbrev S (h : H) (id : Nat) (d : List Nat) : H := h.set id (.arr (nvs d) false)
abbrev SL (id n : Nat) : AV := .slc id 0 n 1
theorem S_get {h : H} {id : Nat} (hid : id < h.length) (d : List Nat) : (S h id d)[id]? = some (.arr (nvs d) false) := by rw [S, List.getElem?_set_self hid]
theorem SL_at {id n i : Nat} (h : i < n) : ixSlice 1 (SL id n) (.int .i64 (i : Int)) = some (.ptr id (0 + i * 1)) := by
  unfold ixSlice natOf
  simp [h]
theorem S_ld {h : H} {id : Nat} (hid : id < h.length) {d : List Nat} {i x : Nat} (hi : d[i]? = some x) : ldCell (S h id d) (.ptr id (0 + i * 1)) = some (.int .i64 (x : Int)) := by
  rw [ld_at (S_get hid d), Nat.zero_add, Nat.mul_one, List.getElem?_map, hi]; rfl
theorem S_st {h : H} {id : Nat} (hid : id < h.length) {d : List Nat} {i : Nat} (hi : i < d.length) (x : Nat) : stN 1 (S h id d) (.ptr id (0 + i * 1)) (.int .i64 (x : Int)) = some (.undef, S h id (d.set i x)) := by
  rw [st_int (S_get hid d) (by simp; omega), Nat.zero_add, Nat.mul_one, nvs_set, S, S, List.set_set]
theorem SL_canon (id n : Nat) : AV.canon (SL id n) = SL id n := rfl
theorem swr_loop {J : Jn (AEnd × H)} {k : Nat} (hJ : slices_swapRangeCmpFunc_int.F D k J) {h : H} {id n a b cnt : Nat} (hid : id < h.length) (hn : n ≤ 2 ^ 40) : ∀ (U V P M Q : List Nat) (i m : Nat), U.length = V.length → P.length = a + i → P.length + (U.length + M.length) = b + i → i + U.length = cnt → U.length < m → P.length + (U.length + (M.length + (V.length + Q.length))) = n →
    slices_swapRangeCmpFunc_int.l0 J m (SL id n) (.int .i64 (a : Int)) (.int .i64 (b : Int)) (.int .i64 (cnt : Int)) (.int .i64 (i : Int)) (S h id (P ++ (U ++ (M ++ (V ++ Q))))) = some (.ret (.tuple []), S h id (P ++ (V ++ (M ++ (U ++ Q)))))
  | [], [], P, M, Q, i, m + 1, _, _, _, hc, _, _ => by
    rw [slices_swapRangeCmpFunc_int.l0_eq hJ]
    simp only [lssN, decide_eq_false (show ¬ i < cnt by simp at hc; omega), bind_some', condV_false, List.nil_append]
  | u :: U, v :: V, P, M, Q, i, m + 1, hl, hP, hb, hc, hm, ht => by
    simp only [List.length_cons] at hl hb hc hm ht
    have ih := swr_loop hJ (a := a) (b := b) (cnt := cnt) hid hn U V (P ++ [v]) (M ++ [u]) Q (i + 1) m (by omega) (by simp; omega) (by simp; omega) (by omega) (by omega) (by simp; omega)
    have e1 : P ++ (u :: U ++ (M ++ (v :: V ++ Q))) = P ++ u :: ((U ++ M) ++ v :: (V ++ Q)) := by simp
    have e2 : P ++ v :: ((U ++ M) ++ u :: (V ++ Q)) = (P ++ [v]) ++ (U ++ ((M ++ [u]) ++ (V ++ Q))) := by simp
    have e3 : P ++ (v :: V ++ (M ++ (u :: U ++ Q))) = (P ++ [v]) ++ (V ++ ((M ++ [u]) ++ (U ++ Q))) := by simp
    have sw := swap_two (p := P) (m := U ++ M) (q := V ++ Q) (x := u) (y := v)
    have at1 : (P ++ u :: ((U ++ M) ++ v :: (V ++ Q)))[P.length]? = some u := at_len
    have at2 := two_at (p := P) (m := U ++ M) (q := V ++ Q) (x := u) (y := v)
    have i1 : a + i = P.length := hP.symm
    have i2 : b + i = P.length + 1 + (U ++ M).length := by rw [List.length_append]; omega
    have n1 : P.length < n := by omega
    have n2 : P.length + 1 + (U ++ M).length < n := by rw [List.length_append]; omega
    have len1 : (P ++ u :: ((U ++ M) ++ v :: (V ++ Q))).length = n := by simp; omega
    rw [slices_swapRangeCmpFunc_int.l0_eq hJ, e1, e3]
    simp only [lssN, decide_eq_true (show i < cnt by omega), bind_some', condV_true, addN (show a < 2 ^ 60 by omega) (show i < 2 ^ 60 by omega), addN (show b < 2 ^ 60 by omega) (show i < 2 ^ 60 by omega), i1, i2, SL_at n1, SL_at n2, S_ld hid at1, S_ld hid at2, copy_int]
    rw [S_st hid (show P.length < (P ++ u :: ((U ++ M) ++ v :: (V ++ Q))).length by rw [len1]; exact n1) v, bind_some']
    rw [S_st hid (show P.length + 1 + (U ++ M).length < ((P ++ u :: ((U ++ M) ++ v :: (V ++ Q))).set P.length v).length by rw [List.length_set, len1]; exact n2) u, sw, e2]
    simp only [bind_some', add1 i (by omega)]
    exact ih
theorem swr_den {h : H} {id n : Nat} {f : AV} (hid : id < h.length) (hn : n ≤ 2 ^ 40) {U V P M Q : List Nat} (hl : U.length = V.length) (ht : P.length + (U.length + (M.length + (V.length + Q.length))) = n) :
    D n_slices_swapRangeCmpFunc_int [SL id n, .int .i64 (P.length : Int), .int .i64 ((P.length + (U.length + M.length) : Nat) : Int), .int .i64 (U.length : Int), f] (S h id (P ++ (U ++ (M ++ (V ++ Q))))) = some (.ret (.tuple []), S h id (P ++ (V ++ (M ++ (U ++ Q))))) := by
  refine slices_swapRangeCmpFunc_int.den (U.length + 1) ?_ rfl
  rw [slices_swapRangeCmpFunc_int.f_eq (slices_swapRangeCmpFunc_int.fx _)]
  exact swr_loop (slices_swapRangeCmpFunc_int.fx _) hid hn U V P M Q 0 (U.length + 1) hl (by omega) (by omega) (by omega) (by omega) ht
theorem rot_loop {J : Jn (AEnd × H)} {k : Nat} (hJ : slices_rotateCmpFunc_int.F D k J) {h : H} {id n m0 : Nat} {f : AV} (hf : AV.canon f = f) (hid : id < h.length) (hn : n ≤ 2 ^ 40) : ∀ (m : Nat) (U V P Q : List Nat), U.length + V.length ≤ m → 0 < U.length → 0 < V.length → P.length + U.length = m0 → P.length + (U.length + (V.length + Q.length)) = n →
    slices_rotateCmpFunc_int.l0 J m (SL id n) (.int .i64 (m0 : Int)) f (.int .i64 (U.length : Int)) (.int .i64 (V.length : Int)) (S h id (P ++ (U ++ (V ++ Q)))) = some (.ret (.tuple []), S h id (P ++ (V ++ (U ++ Q))))
  | 0, U, V, P, Q, hm, hu, hv, h0, ht => by omega
  | m + 1, U, V, P, Q, hm, hu, hv, h0, ht => by
    rw [slices_rotateCmpFunc_int.l0_eq hJ]
    have s1 : bin .sub (.int .i64 (m0 : Int)) (.int .i64 (U.length : Int)) = some (.int .i64 (P.length : Int)) := by rw [subN (by omega) (by omega), show m0 - U.length = P.length by omega]
    by_cases he : U.length = V.length
    · have sw := swr_den (f := f) hid hn (U := U) (V := V) (P := P) (M := []) (Q := Q) he (by simp; omega)
      simp only [List.nil_append, List.length_nil, Nat.add_zero] at sw
      rw [h0] at sw
      simp only [neqN, decide_eq_false (show ¬ U.length ≠ V.length from fun h => h he), bind_some', condV_false, s1, SL_canon, canon_int, hf, sw, retOr_ret]
    · simp only [neqN, decide_eq_true (show U.length ≠ V.length from he), bind_some', condV_true, gtrN]
      by_cases hg : V.length < U.length
      · have d1 : U = U.take V.length ++ U.drop V.length := (List.take_append_drop _ _).symm
        have l1 : (U.take V.length).length = V.length := by rw [List.length_take]; omega
        have l2 : (U.drop V.length).length = U.length - V.length := List.length_drop
        generalize hU1 : U.take V.length = U1 at *
        generalize hU2 : U.drop V.length = U2 at *
        have ihl : U1.length + U2.length = U.length := by omega
        have sw := swr_den (f := f) hid hn (U := U1) (V := V) (P := P) (M := U2) (Q := Q) l1 (by omega)
        rw [show P.length + (U1.length + U2.length) = m0 by omega, l1] at sw
        have ih := rot_loop hJ (m0 := m0) hf hid hn m U2 U1 (P ++ V) Q (by omega) (by omega) (by omega) (by simp; omega) (by simp; omega)
        rw [l1, show (U2.length : Int) = ((U.length - V.length : Nat) : Int) by rw [l2]] at ih
        have st : S h id (P ++ (U ++ (V ++ Q))) = S h id (P ++ (U1 ++ (U2 ++ (V ++ Q)))) := by rw [d1, List.append_assoc]
        rw [st]
        simp only [decide_eq_true hg, condV_true, s1, bind_some', SL_canon, canon_int, hf, sw, retOr_ret, subN (show U.length < 2 ^ 60 by omega) (Nat.le_of_lt hg)]
        have e1 : P ++ (V ++ (U2 ++ (U1 ++ Q))) = (P ++ V) ++ (U2 ++ (U1 ++ Q)) := by simp
        have e2 : P ++ (V ++ (U ++ Q)) = (P ++ V) ++ (U1 ++ (U2 ++ Q)) := by rw [d1]; simp
        rw [e1, e2]
        exact ih
      · have hlt : U.length < V.length := by omega
        have d1 : V = V.take (V.length - U.length) ++ V.drop (V.length - U.length) := (List.take_append_drop _ _).symm
        have l1 : (V.take (V.length - U.length)).length = V.length - U.length := by rw [List.length_take]; omega
        have l2 : (V.drop (V.length - U.length)).length = U.length := by rw [List.length_drop]; omega
        generalize hV1 : V.take (V.length - U.length) = V1 at *
        generalize hV2 : V.drop (V.length - U.length) = V2 at *
        have sw := swr_den (f := f) hid hn (U := U) (V := V2) (P := P) (M := V1) (Q := Q) l2.symm (by omega)
        have ih := rot_loop hJ (m0 := m0) hf hid hn m V2 V1 P (U ++ Q) (by omega) (by omega) (by omega) (by omega) (by simp; omega)
        rw [l2, show (V1.length : Int) = ((V.length - U.length : Nat) : Int) by rw [l1]] at ih
        have st : S h id (P ++ (U ++ (V ++ Q))) = S h id (P ++ (U ++ (V1 ++ (V2 ++ Q)))) := by rw [d1, List.append_assoc]
        have e2 : P ++ (V ++ (U ++ Q)) = P ++ (V1 ++ (V2 ++ (U ++ Q))) := by rw [d1]; simp
        rw [st, e2]
        simp only [decide_eq_false hg, condV_false, s1, bind_some', addN (show m0 < 2 ^ 60 by omega) (show V.length < 2 ^ 60 by omega), subN (show m0 + V.length < 2 ^ 60 by omega) (show U.length ≤ m0 + V.length by omega), SL_canon, canon_int, hf]
        rw [show m0 + V.length - U.length = P.length + (U.length + V1.length) by omega, sw]
        simp only [bind_some', retOr_ret, subN (show V.length < 2 ^ 60 by omega) (Nat.le_of_lt hlt)]
        exact ih
theorem rot_den {h : H} {id n : Nat} {f : AV} (hf : AV.canon f = f) (hid : id < h.length) (hn : n ≤ 2 ^ 40) {U V P Q : List Nat} (hu : 0 < U.length) (hv : 0 < V.length) (ht : P.length + (U.length + (V.length + Q.length)) = n) :
    D n_slices_rotateCmpFunc_int [SL id n, .int .i64 (P.length : Int), .int .i64 ((P.length + U.length : Nat) : Int), .int .i64 ((P.length + U.length + V.length : Nat) : Int), f] (S h id (P ++ (U ++ (V ++ Q)))) = some (.ret (.tuple []), S h id (P ++ (V ++ (U ++ Q)))) := by
  refine slices_rotateCmpFunc_int.den (U.length + V.length) ?_ rfl
  rw [slices_rotateCmpFunc_int.f_eq (slices_rotateCmpFunc_int.fx _)]
  simp only [subN (show P.length + U.length < 2 ^ 60 by omega) (show P.length ≤ P.length + U.length by omega), subN (show P.length + U.length + V.length < 2 ^ 60 by omega) (show P.length + U.length ≤ P.length + U.length + V.length by omega), bind_some']
  rw [show P.length + U.length - P.length = U.length by omega, show P.length + U.length + V.length - (P.length + U.length) = V.length by omega]
  exact rot_loop (slices_rotateCmpFunc_int.fx _) hf hid hn (U.length + V.length) U V P Q (Nat.le_refl _) hu hv rfl ht
end Go.Proofs.Ytdggnlgklicbdaa

open Go Go.Ve Go.Proofs
namespace Go.Proofs.Ytdggnlgklicbdaa
set_option maxRecDepth 100000
set_option linter.all false
structure CmpOk (f : AV) (id : Nat) (h : H) (lt : Nat → Nat → Prop) (N : Nat) : Prop where
  canon : AV.canon f = f
  call : ∀ (d : List Nat) (x y : Nat), y < x → x < N → ∃ z : Int, callVal D (S h id d) f [.int .i64 (x : Int), .int .i64 (y : Int)] = some (.ret (.int .i64 z), S h id d) ∧ (z < 0 ↔ lt x y)
theorem seg_a {P A B Q : List Nat} {u : Nat} (hu : u < A.length) : (P ++ (A ++ (B ++ Q)))[P.length + u]? = some A[u] := by
  rw [List.getElem?_append_right (by omega), Nat.add_sub_cancel_left, List.getElem?_append_left hu, List.getElem?_eq_getElem hu]
theorem seg_b {P A B Q : List Nat} {v : Nat} (hv : v < B.length) : (P ++ (A ++ (B ++ Q)))[P.length + A.length + v]? = some B[v] := by
  rw [List.getElem?_append_right (by omega), show P.length + A.length + v - P.length = A.length + v by omega, List.getElem?_append_right (by omega), Nat.add_sub_cancel_left, List.getElem?_append_left hv, List.getElem?_eq_getElem hv]
section
variable {J : Jn (AEnd × H)} {k : Nat} {h : H} {id n N : Nat} {f : AV} {lt : Nat → Nat → Prop}
theorem sl2_loop (hJ : slices_symMergeCmpFunc_int.F D k J) (hid : id < h.length) (hn : n ≤ 2 ^ 40) {x i : Nat} : ∀ (B P R : List Nat) (m : Nat), P.length + B.length + 1 = i → B.length < m → P.length + 1 + B.length + R.length = n →
    slices_symMergeCmpFunc_int.l2 J m (SL id n) (.int .i64 (i : Int)) (.int .i64 (P.length : Int)) (S h id (P ++ x :: (B ++ R))) = some (.ret (.tuple []), S h id (P ++ (B ++ x :: R)))
  | [], P, R, m + 1, hi, _, ht => by
    rw [slices_symMergeCmpFunc_int.l2_eq hJ]
    simp only [List.length_nil] at hi ht
    simp only [sub1 (show i < 2 ^ 60 by omega) (show 1 ≤ i by omega), bind_some', lssN, decide_eq_false (show ¬ P.length < i - 1 by omega), condV_false, List.nil_append]
  | q :: B, P, R, m + 1, hi, hm, ht => by
    simp only [List.length_cons] at hi hm ht
    have ih := sl2_loop hJ hid hn (x := x) (i := i) B (P ++ [q]) R m (by simp; omega) (by omega) (by simp; omega)
    have e1 : P ++ x :: (q :: B ++ R) = P ++ x :: q :: (B ++ R) := rfl
    have e2 : P ++ q :: x :: (B ++ R) = (P ++ [q]) ++ x :: (B ++ R) := by simp
    have e3 : P ++ (q :: B ++ x :: R) = (P ++ [q]) ++ (B ++ x :: R) := by simp
    have lt1 : P.length < n := by omega
    have lt2 : P.length + 1 < n := by omega
    have len1 : (P ++ x :: q :: (B ++ R)).length = n := by simp; omega
    rw [slices_symMergeCmpFunc_int.l2_eq hJ, e1, e3]
    simp only [sub1 (show i < 2 ^ 60 by omega) (show 1 ≤ i by omega), bind_some', lssN, decide_eq_true (show P.length < i - 1 by omega), condV_true, add1 P.length (by omega), SL_at lt1, SL_at lt2, S_ld hid at_len1, S_ld hid at_len, copy_int]
    rw [S_st hid (by rw [len1]; exact lt1) q, bind_some', S_st hid (by rw [List.length_set, len1]; exact lt2) x, swap_next, e2]
    simp only [bind_some']
    rw [List.length_append, List.length_singleton] at ih
    exact ih
theorem sl3_loop (hJ : slices_symMergeCmpFunc_int.F D k J) (hid : id < h.length) (hn : n ≤ 2 ^ 40) {y : Nat} {P : List Nat} : ∀ (Z R : List Nat) (m : Nat), Z.length < m → P.length + Z.length + 1 + R.length = n →
    slices_symMergeCmpFunc_int.l3 J m (SL id n) (.int .i64 (P.length : Int)) (.int .i64 ((P.length + Z.length : Nat) : Int)) (S h id (P ++ (Z.reverse ++ y :: R))) = some (.ret (.tuple []), S h id (P ++ y :: (Z.reverse ++ R)))
  | [], R, m + 1, _, ht => by
    rw [slices_symMergeCmpFunc_int.l3_eq hJ]
    simp only [List.length_nil, gtrN, decide_eq_false (show ¬ P.length < P.length + 0 by omega), bind_some', condV_false, List.reverse_nil, List.nil_append]
  | z :: Z, R, m + 1, hm, ht => by
    simp only [List.length_cons] at hm ht
    have ih := sl3_loop hJ hid hn (y := y) (P := P) Z (z :: R) m (by omega) (by simp; omega)
    have e1 : P ++ ((z :: Z).reverse ++ y :: R) = (P ++ Z.reverse) ++ z :: y :: R := by simp
    have e2 : (P ++ Z.reverse) ++ y :: z :: R = P ++ (Z.reverse ++ y :: z :: R) := by simp
    have e3 : P ++ y :: ((z :: Z).reverse ++ R) = P ++ y :: (Z.reverse ++ z :: R) := by simp
    have pl : (P ++ Z.reverse).length = P.length + Z.length := by simp
    have lt1 : P.length + Z.length < n := by omega
    have lt2 : P.length + Z.length + 1 < n := by omega
    have len1 : ((P ++ Z.reverse) ++ z :: y :: R).length = n := by simp; omega
    have a1 : ((P ++ Z.reverse) ++ z :: y :: R)[P.length + Z.length]? = some z := by rw [← pl]; exact at_len
    have a2 : ((P ++ Z.reverse) ++ z :: y :: R)[P.length + Z.length + 1]? = some y := by rw [← pl]; exact at_len1
    have sw := swap_next (p := P ++ Z.reverse) (q := R) (x := z) (y := y)
    rw [pl] at sw
    have sw2 : ((P ++ Z.reverse ++ z :: y :: R).set (P.length + Z.length + 1) z).set (P.length + Z.length) y = (P ++ Z.reverse) ++ y :: z :: R := by
      rw [← sw, List.set_comm _ _ (show P.length + Z.length + 1 ≠ P.length + Z.length by omega)]
    rw [slices_symMergeCmpFunc_int.l3_eq hJ, e1, e3]
    simp only [List.length_cons, gtrN, decide_eq_true (show P.length < P.length + (Z.length + 1) by omega), bind_some', condV_true, sub1 (show P.length + (Z.length + 1) < 2 ^ 60 by omega) (show 1 ≤ P.length + (Z.length + 1) by omega)]
    rw [show P.length + (Z.length + 1) - 1 = P.length + Z.length by omega, show P.length + (Z.length + 1) = P.length + Z.length + 1 by omega]
    simp only [SL_at lt1, SL_at lt2, bind_some', S_ld hid a1, S_ld hid a2, copy_int]
    rw [S_st hid (by rw [len1]; exact lt2) z, bind_some', S_st hid (by rw [List.length_set, len1]; exact lt1) y, sw2, e2]
    simp only [bind_some']
    exact ih
theorem sl0_loop (hJ : slices_symMergeCmpFunc_int.F D k J) (hc : CmpOk f id h lt N) (s : Strict lt) (hid : id < h.length) (hn : n ≤ 2 ^ 40) {P B Q : List Nat} {x : Nat} (hB : Up lt B) (hx : ∀ y ∈ B, x < y) (hN : ∀ y ∈ B, y < N) (ht : P.length + 1 + B.length + Q.length = n) : ∀ (m u v : Nat), u ≤ v → v ≤ B.length → v - u < m → (∀ t (h : t < B.length), t < u → lt B[t] x) → (∀ t (h : t < B.length), v ≤ t → lt x B[t]) →
    ∃ q, q ≤ B.length ∧ (∀ t (h : t < B.length), t < q → lt B[t] x) ∧ (∀ t (h : t < B.length), q ≤ t → lt x B[t]) ∧ slices_symMergeCmpFunc_int.l0 J m (SL id n) (.int .i64 (P.length : Int)) f (.int .i64 ((P.length + 1 + u : Nat) : Int)) (.int .i64 ((P.length + 1 + v : Nat) : Int)) (S h id (P ++ ([x] ++ (B ++ Q)))) = slices_symMergeCmpFunc_int.l2 J k (SL id n) (.int .i64 ((P.length + 1 + q : Nat) : Int)) (.int .i64 (P.length : Int)) (S h id (P ++ ([x] ++ (B ++ Q))))
  | m + 1, u, v, huv, hv, hm, ha, hb => by
    rw [slices_symMergeCmpFunc_int.l0_eq hJ]
    by_cases hlt : u < v
    · obtain ⟨v3, v4, v5, q3, q4, q5, q6⟩ := half (P.length + 1 + u) (P.length + 1 + v) (by omega) (by omega)
      obtain ⟨w, hw⟩ : ∃ w, w = (u + v) / 2 := ⟨_, rfl⟩
      have hz : (P.length + 1 + u + (P.length + 1 + v)) / 2 = P.length + 1 + w := by omega
      rw [hz] at q6
      have w1 : u ≤ w := by omega
      have w2 : w < v := by omega
      have wl : w < B.length := by omega
      have g1 : (P ++ ([x] ++ (B ++ Q)))[P.length]? = some x := at_len
      have g2 : (P ++ ([x] ++ (B ++ Q)))[P.length + 1 + w]? = some B[w] := seg_b (A := [x]) wl
      obtain ⟨z, e1, e2⟩ := hc.call (P ++ ([x] ++ (B ++ Q))) B[w] x (hx _ (List.getElem_mem _)) (hN _ (List.getElem_mem _))
      rw [lssN, decide_eq_true (show P.length + 1 + u < P.length + 1 + v by omega)]
      simp only [bind_some', condV_true, q3, q4, q5, q6, SL_at (show P.length + 1 + w < n by omega), SL_at (show P.length < n by omega), S_ld hid g1, S_ld hid g2, canon_int, e1, retOr_ret, bin_lss]
      by_cases hz0 : z < 0
      · have hl := e2.mp hz0
        obtain ⟨q, c1, c2, c3, e⟩ := sl0_loop hJ hc s hid hn hB hx hN ht m (w + 1) v (by omega) hv (by omega) (fun t ht' h1 => by
          rcases Nat.lt_or_ge t w with h2 | h2
          · exact s.trans (List.pairwise_iff_getElem.mp hB t w (by omega) wl h2) hl
          · have : t = w := by omega
            subst this; exact hl) hb
        refine ⟨q, c1, c2, c3, ?_⟩
        simp only [decide_eq_true hz0, condV_true, add1 (P.length + 1 + w) (by omega), bind_some']
        exact e
      · have hl : lt x B[w] := by
          rcases s.tri B[w] x with h1 | h1 | h1
          · exact absurd (e2.mpr h1) hz0
          · exact absurd h1 (Nat.ne_of_gt (hx _ (List.getElem_mem _)))
          · exact h1
        obtain ⟨q, c1, c2, c3, e⟩ := sl0_loop hJ hc s hid hn hB hx hN ht m u w w1 (by omega) (by omega) ha (fun t ht' h1 => by
          rcases Nat.lt_or_ge w t with h2 | h2
          · exact s.trans hl (List.pairwise_iff_getElem.mp hB w t wl ht' h2)
          · have : t = w := by omega
            subst this; exact hl)
        refine ⟨q, c1, c2, c3, ?_⟩
        simp only [decide_eq_false hz0, condV_false]
        exact e
    · have : u = v := by omega
      subst this
      refine ⟨u, hv, ha, hb, ?_⟩
      simp only [lssN, decide_eq_false (show ¬ P.length + 1 + u < P.length + 1 + u by omega), bind_some', condV_false]
theorem sl1_loop (hJ : slices_symMergeCmpFunc_int.F D k J) (hc : CmpOk f id h lt N) (s : Strict lt) (hid : id < h.length) (hn : n ≤ 2 ^ 40) {P A Q : List Nat} {y : Nat} (hA : Up lt A) (hy : ∀ x ∈ A, x < y) (hN : y < N) (ht : P.length + A.length + 1 + Q.length = n) : ∀ (m u v : Nat), u ≤ v → v ≤ A.length → v - u < m → (∀ t (h : t < A.length), t < u → lt A[t] y) → (∀ t (h : t < A.length), v ≤ t → lt y A[t]) →
    ∃ q, q ≤ A.length ∧ (∀ t (h : t < A.length), t < q → lt A[t] y) ∧ (∀ t (h : t < A.length), q ≤ t → lt y A[t]) ∧ slices_symMergeCmpFunc_int.l1 J m (SL id n) (.int .i64 ((P.length + A.length : Nat) : Int)) f (.int .i64 ((P.length + u : Nat) : Int)) (.int .i64 ((P.length + v : Nat) : Int)) (S h id (P ++ (A ++ ([y] ++ Q)))) = slices_symMergeCmpFunc_int.l3 J k (SL id n) (.int .i64 ((P.length + q : Nat) : Int)) (.int .i64 ((P.length + A.length : Nat) : Int)) (S h id (P ++ (A ++ ([y] ++ Q))))
  | m + 1, u, v, huv, hv, hm, ha, hb => by
    rw [slices_symMergeCmpFunc_int.l1_eq hJ]
    by_cases hlt : u < v
    · obtain ⟨v3, v4, v5, q3, q4, q5, q6⟩ := half (P.length + u) (P.length + v) (by omega) (by omega)
      obtain ⟨w, hw⟩ : ∃ w, w = (u + v) / 2 := ⟨_, rfl⟩
      have hz : (P.length + u + (P.length + v)) / 2 = P.length + w := by omega
      rw [hz] at q6
      have w1 : u ≤ w := by omega
      have w2 : w < v := by omega
      have wl : w < A.length := by omega
      have g1 : (P ++ (A ++ ([y] ++ Q)))[P.length + w]? = some A[w] := seg_a wl
      have g2 : (P ++ (A ++ ([y] ++ Q)))[P.length + A.length]? = some y := by
        have := seg_b (P := P) (A := A) (B := [y]) (Q := Q) (v := 0) (by simp)
        simpa using this
      obtain ⟨z, e1, e2⟩ := hc.call (P ++ (A ++ ([y] ++ Q))) y A[w] (hy _ (List.getElem_mem _)) hN
      rw [lssN, decide_eq_true (show P.length + u < P.length + v by omega)]
      simp only [bind_some', condV_true, q3, q4, q5, q6, SL_at (show P.length + w < n by omega), SL_at (show P.length + A.length < n by omega), S_ld hid g1, S_ld hid g2, canon_int, e1, retOr_ret, bin_lss, not_bool]
      by_cases hz0 : z < 0
      · have hl := e2.mp hz0
        obtain ⟨q, c1, c2, c3, e⟩ := sl1_loop hJ hc s hid hn hA hy hN ht m u w w1 (by omega) (by omega) ha (fun t ht' h1 => by
          rcases Nat.lt_or_ge w t with h2 | h2
          · exact s.trans hl (List.pairwise_iff_getElem.mp hA w t wl ht' h2)
          · have : t = w := by omega
            subst this; exact hl)
        refine ⟨q, c1, c2, c3, ?_⟩
        simp only [decide_eq_true hz0, Bool.not_true, condV_false]
        exact e
      · have hl : lt A[w] y := by
          rcases s.tri y A[w] with h1 | h1 | h1
          · exact absurd (e2.mpr h1) hz0
          · exact absurd h1 (Nat.ne_of_gt (hy _ (List.getElem_mem _)))
          · exact h1
        obtain ⟨q, c1, c2, c3, e⟩ := sl1_loop hJ hc s hid hn hA hy hN ht m (w + 1) v (by omega) hv (by omega) (fun t ht' h1 => by
          rcases Nat.lt_or_ge t w with h2 | h2
          · exact s.trans (List.pairwise_iff_getElem.mp hA t w (by omega) wl h2) hl
          · have : t = w := by omega
            subst this; exact hl) hb
        refine ⟨q, c1, c2, c3, ?_⟩
        simp only [decide_eq_false hz0, Bool.not_false, condV_true, add1 (P.length + w) (by omega), bind_some']
        exact e
    · have : u = v := by omega
      subst this
      refine ⟨u, hv, ha, hb, ?_⟩
      simp only [lssN, decide_eq_false (show ¬ P.length + u < P.length + u by omega), bind_some', condV_false]
end
end Go.Proofs.Ytdggnlgklicbdaa

open Go Go.Ve Go.Proofs
namespace Go.Proofs.Ytdggnlgklicbdaa
set_option maxRecDepth 100000
set_option linter.all false
section
variable {J : Jn (AEnd × H)} {k : Nat} {h : H} {id n N : Nat} {f : AV} {lt : Nat → Nat → Prop}
abbrev lo0 (a b : Nat) : Nat := if (a + b) / 2 < a then (a + b) / 2 - b else 0
abbrev hi0 (a b : Nat) : Nat := if (a + b) / 2 < a then (a + b) / 2 else a
theorem lohi {a b t : Nat} (h1 : lo0 a b ≤ t) (h2 : t < hi0 a b) : t < a ∧ (a + b) / 2 - 1 - t < b ∧ t < (a + b) / 2 := by
  unfold lo0 at h1
  unfold hi0 at h2
  split at h1 <;> rename_i h <;> simp only [h, if_true, if_false] at h2 <;> omega
theorem lohi_le {a b : Nat} (ha : 0 < a) (hb : 0 < b) : lo0 a b ≤ hi0 a b ∧ hi0 a b ≤ a ∧ hi0 a b ≤ (a + b) / 2 ∧ (a + b) / 2 - b ≤ lo0 a b := by
  unfold lo0 hi0
  split <;> omega
theorem sl4_loop (hJ : slices_symMergeCmpFunc_int.F D k J) (hc : CmpOk f id h lt N) (s : Strict lt) (hid : id < h.length) (hn : n ≤ 2 ^ 40) {P A B Q : List Nat} (hA : Up lt A) (hB : Up lt B) (hAB : ∀ x ∈ A, ∀ y ∈ B, x < y) (hN : ∀ y ∈ B, y < N) (ht : P.length + (A.length + (B.length + Q.length)) = n) (ha0 : 0 < A.length) (hb0 : 0 < B.length) : ∀ (m u v : Nat), u ≤ v → lo0 A.length B.length ≤ u → v ≤ hi0 A.length B.length → v - u < m →
    (∀ t (h1 : t < A.length) (h2 : (A.length + B.length) / 2 - 1 - t < B.length), lo0 A.length B.length ≤ t → t < u → lt A[t] B[(A.length + B.length) / 2 - 1 - t]) → (∀ t (h1 : t < A.length) (h2 : (A.length + B.length) / 2 - 1 - t < B.length), v ≤ t → t < hi0 A.length B.length → lt B[(A.length + B.length) / 2 - 1 - t] A[t]) →
    ∃ q, lo0 A.length B.length ≤ q ∧ q ≤ hi0 A.length B.length ∧ (∀ t (h1 : t < A.length) (h2 : (A.length + B.length) / 2 - 1 - t < B.length), lo0 A.length B.length ≤ t → t < q → lt A[t] B[(A.length + B.length) / 2 - 1 - t]) ∧ (∀ t (h1 : t < A.length) (h2 : (A.length + B.length) / 2 - 1 - t < B.length), q ≤ t → t < hi0 A.length B.length → lt B[(A.length + B.length) / 2 - 1 - t] A[t]) ∧
      slices_symMergeCmpFunc_int.l4 J m (SL id n) (.int .i64 (P.length : Int)) (.int .i64 ((P.length + A.length : Nat) : Int)) (.int .i64 ((P.length + A.length + B.length : Nat) : Int)) f (.int .i64 ((P.length + (A.length + B.length) / 2 : Nat) : Int)) (.int .i64 ((P.length + (A.length + B.length) / 2 + (P.length + A.length) : Nat) : Int)) (.int .i64 ((P.length + u : Nat) : Int)) (.int .i64 ((P.length + v : Nat) : Int)) (.int .i64 ((P.length + (A.length + B.length) / 2 + (P.length + A.length) - 1 : Nat) : Int)) (S h id (P ++ (A ++ (B ++ Q)))) =
      slices_symMergeCmpFunc_int.j2 J (SL id n) (.int .i64 (P.length : Int)) (.int .i64 ((P.length + A.length : Nat) : Int)) (.int .i64 ((P.length + A.length + B.length : Nat) : Int)) f (.int .i64 ((P.length + (A.length + B.length) / 2 : Nat) : Int)) (.int .i64 ((P.length + q : Nat) : Int)) (.int .i64 ((P.length + A.length + ((A.length + B.length) / 2 - q) : Nat) : Int)) (.bool (decide (q < A.length ∧ q < (A.length + B.length) / 2))) (S h id (P ++ (A ++ (B ++ Q))))
  | m + 1, u, v, huv, hlo, hhi, hm, ha, hb => by
    have bd := lohi_le ha0 hb0
    obtain ⟨μ, hμ⟩ : ∃ μ, μ = (A.length + B.length) / 2 := ⟨_, rfl⟩
    rw [slices_symMergeCmpFunc_int.l4_eq hJ]
    by_cases hlt : u < v
    · obtain ⟨v3, v4, v5, q3, q4, q5, q6⟩ := half (P.length + u) (P.length + v) (by omega) (by omega)
      obtain ⟨w, hw⟩ : ∃ w, w = (u + v) / 2 := ⟨_, rfl⟩
      have hz : (P.length + u + (P.length + v)) / 2 = P.length + w := by omega
      rw [hz] at q6
      have w1 : u ≤ w := by omega
      have w2 : w < v := by omega
      obtain ⟨wa, wb, wm⟩ := lohi (a := A.length) (b := B.length) (t := w) (by omega) (by omega)
      have g1 : (P ++ (A ++ (B ++ Q)))[P.length + w]? = some A[w] := seg_a wa
      have g2 : (P ++ (A ++ (B ++ Q)))[P.length + A.length + ((A.length + B.length) / 2 - 1 - w)]? = some B[(A.length + B.length) / 2 - 1 - w] := seg_b wb
      have pc : P.length + (A.length + B.length) / 2 + (P.length + A.length) - 1 - (P.length + w) = P.length + A.length + ((A.length + B.length) / 2 - 1 - w) := by omega
      obtain ⟨z, e1, e2⟩ := hc.call (P ++ (A ++ (B ++ Q))) B[(A.length + B.length) / 2 - 1 - w] A[w] (hAB _ (List.getElem_mem _) _ (List.getElem_mem _)) (hN _ (List.getElem_mem _))
      rw [lssN, decide_eq_true (show P.length + u < P.length + v by omega)]
      simp only [bind_some', condV_true, q3, q4, q5, q6, subN (show P.length + (A.length + B.length) / 2 + (P.length + A.length) - 1 < 2 ^ 60 by omega) (show P.length + w ≤ P.length + (A.length + B.length) / 2 + (P.length + A.length) - 1 by omega), pc, SL_at (show P.length + A.length + ((A.length + B.length) / 2 - 1 - w) < n by omega), SL_at (show P.length + w < n by omega), S_ld hid g1, S_ld hid g2, canon_int, e1, retOr_ret, bin_lss, not_bool]
      by_cases hz0 : z < 0
      · have hl := e2.mp hz0
        obtain ⟨q, c0, c1, c2, c3, e⟩ := sl4_loop hJ hc s hid hn hA hB hAB hN ht ha0 hb0 m u w w1 hlo (by omega) (by omega) ha (fun t h1 h2 h3 h4 => by
          rcases Nat.lt_or_ge w t with h5 | h5
          · refine s.trans (List.pairwise_iff_getElem.mp hB _ _ h2 wb (by omega)) (s.trans hl (List.pairwise_iff_getElem.mp hA w t wa h1 h5))
          · have : t = w := by omega
            subst this; exact hl)
        refine ⟨q, c0, c1, c2, c3, ?_⟩
        simp only [decide_eq_true hz0, Bool.not_true, condV_false]
        exact e
      · have hl : lt A[w] B[(A.length + B.length) / 2 - 1 - w] := by
          rcases s.tri B[(A.length + B.length) / 2 - 1 - w] A[w] with h1 | h1 | h1
          · exact absurd (e2.mpr h1) hz0
          · exact absurd h1 (Nat.ne_of_gt (hAB _ (List.getElem_mem _) _ (List.getElem_mem _)))
          · exact h1
        obtain ⟨q, c0, c1, c2, c3, e⟩ := sl4_loop hJ hc s hid hn hA hB hAB hN ht ha0 hb0 m (w + 1) v (by omega) (by omega) hhi (by omega) (fun t h1 h2 h3 h4 => by
          rcases Nat.lt_or_ge t w with h5 | h5
          · refine s.trans (List.pairwise_iff_getElem.mp hA t w h1 wa h5) (s.trans hl (List.pairwise_iff_getElem.mp hB _ _ wb h2 (by omega)))
          · have : t = w := by omega
            subst this; exact hl) hb
        refine ⟨q, c0, c1, c2, c3, ?_⟩
        simp only [decide_eq_false hz0, Bool.not_false, condV_true, add1 (P.length + w) (by omega), bind_some']
        exact e
    · have : u = v := by omega
      subst this
      refine ⟨u, hlo, hhi, ha, hb, ?_⟩
      have e1 : P.length + (A.length + B.length) / 2 + (P.length + A.length) - (P.length + u) = P.length + A.length + ((A.length + B.length) / 2 - u) := by omega
      rw [lssN, decide_eq_false (show ¬ P.length + u < P.length + u by omega)]
      simp only [bind_some', condV_false, subN (show P.length + (A.length + B.length) / 2 + (P.length + A.length) < 2 ^ 60 by omega) (show P.length + u ≤ P.length + (A.length + B.length) / 2 + (P.length + A.length) by omega), e1, lssN]
      by_cases h1 : u < A.length
      · simp only [decide_eq_true (show P.length + u < P.length + A.length by omega), condV_true]
        congr 2
        exact decide_eq_decide.2 (by omega)
      · simp only [decide_eq_false (show ¬ P.length + u < P.length + A.length by omega), condV_false]
        rw [decide_eq_false (fun h => h1 h.1)]
set_option maxHeartbeats 2000000 in
theorem sym_den (hc : CmpOk f id h lt N) (s : Strict lt) (hid : id < h.length) (hn : n ≤ 2 ^ 40) : ∀ (k : Nat) (P A B Q : List Nat), A.length + B.length ≤ k → 0 < A.length → 0 < B.length → Up lt A → Up lt B → (∀ x ∈ A, ∀ y ∈ B, x < y) → (∀ y ∈ B, y < N) → P.length + (A.length + (B.length + Q.length)) = n →
    ∃ R, IsMerge lt R A B ∧ D n_slices_symMergeCmpFunc_int [SL id n, .int .i64 (P.length : Int), .int .i64 ((P.length + A.length : Nat) : Int), .int .i64 ((P.length + A.length + B.length : Nat) : Int), f] (S h id (P ++ (A ++ (B ++ Q)))) = some (.ret (.tuple []), S h id (P ++ (R ++ Q)))
  | 0, P, A, B, Q, hk, ha, hb, _, _, _, _, _ => by omega
  | k + 1, P, A, B, Q, hk, ha, hb, hA, hB, hAB, hN, ht => by
    have hJ := slices_symMergeCmpFunc_int.fx (n + 1)
    have fe : ∀ {R : List Nat}, slices_symMergeCmpFunc_int.f (slices_symMergeCmpFunc_int.JD (n + 1)) (SL id n) (.int .i64 (P.length : Int)) (.int .i64 ((P.length + A.length : Nat) : Int)) (.int .i64 ((P.length + A.length + B.length : Nat) : Int)) f (S h id (P ++ (A ++ (B ++ Q)))) = some (.ret (.tuple []), S h id (P ++ (R ++ Q))) → D n_slices_symMergeCmpFunc_int [SL id n, .int .i64 (P.length : Int), .int .i64 ((P.length + A.length : Nat) : Int), .int .i64 ((P.length + A.length + B.length : Nat) : Int), f] (S h id (P ++ (A ++ (B ++ Q)))) = some (.ret (.tuple []), S h id (P ++ (R ++ Q))) := fun e => slices_symMergeCmpFunc_int.den (n + 1) e rfl
    have f0 := slices_symMergeCmpFunc_int.f_eq hJ (SL id n) (.int .i64 (P.length : Int)) (.int .i64 ((P.length + A.length : Nat) : Int)) (.int .i64 ((P.length + A.length + B.length : Nat) : Int)) f (S h id (P ++ (A ++ (B ++ Q))))
    rw [subN (show P.length + A.length < 2 ^ 60 by omega) (show P.length ≤ P.length + A.length by omega), show P.length + A.length - P.length = A.length by omega, bind_some'] at f0
    by_cases h1 : A.length = 1
    · obtain ⟨x, rfl⟩ : ∃ x, A = [x] := by
        match A, h1 with
        | [x], _ => exact ⟨x, rfl⟩
      obtain ⟨q, c1, c2, c3, e⟩ := sl0_loop hJ hc s hid hn (P := P) (Q := Q) hB (fun y hy => hAB x (by simp) y hy) hN (by simp at ht; omega) (n + 1) 0 B.length (Nat.zero_le _) (Nat.le_refl _) (by simp at ht; omega) (fun t ht h => absurd h (Nat.not_lt_zero t)) (fun t ht h => absurd ht (by omega))
      have db : B = B.take q ++ B.drop q := (List.take_append_drop q B).symm
      have l1 : (B.take q).length = q := by rw [List.length_take]; omega
      have l2 : (B.drop q).length = B.length - q := List.length_drop
      have m1 : ∀ y ∈ B.take q, lt y x := by
        intro y hy
        obtain ⟨t, ht1, rfl⟩ := List.getElem_of_mem hy
        rw [List.getElem_take]
        exact c2 t (by omega) (by omega)
      have m2 : ∀ y ∈ B.drop q, lt x y := by
        intro y hy
        obtain ⟨t, ht1, rfl⟩ := List.getElem_of_mem hy
        rw [List.getElem_drop]
        exact c3 (q + t) (by omega) (by omega)
      have mg := merge_left s (x := x) (p := B.take q) (q := B.drop q) (by rw [← db]; exact hB) m1 m2
      rw [← db] at mg
      refine ⟨_, mg, fe ?_⟩
      rw [f0]
      have e2 := sl2_loop hJ (x := x) (i := P.length + 1 + q) hid hn (B.take q) P (B.drop q ++ Q) (n + 1) (by omega) (by simp at ht; omega) (by simp at ht ⊢; omega)
      have sh : P ++ ([x] ++ (B ++ Q)) = P ++ x :: (B.take q ++ (B.drop q ++ Q)) := by
        rw [← List.append_assoc (B.take q), List.take_append_drop]
        rfl
      have sh2 : P ++ ((B.take q ++ x :: B.drop q) ++ Q) = P ++ (B.take q ++ x :: (B.drop q ++ Q)) := by simp
      rw [← sh, ← sh2] at e2
      have one : bin .eql (.int .i64 (([x].length : Nat) : Int)) (.int .i64 1) = some (.bool true) := rfl
      simp only [one, bind_some', condV_true]
      exact e.trans e2
    · have n1 : bin .eql (.int .i64 (A.length : Int)) (.int .i64 1) = some (.bool false) := by
        rw [bin_eql, decide_eq_false (by omega)]
      rw [n1] at f0
      simp only [bind_some', condV_false, subN (show P.length + A.length + B.length < 2 ^ 60 by omega) (show P.length + A.length ≤ P.length + A.length + B.length by omega), show P.length + A.length + B.length - (P.length + A.length) = B.length by omega] at f0
      by_cases h2 : B.length = 1
      · obtain ⟨y, rfl⟩ : ∃ y, B = [y] := by
          match B, h2 with
          | [y], _ => exact ⟨y, rfl⟩
        obtain ⟨q, c1, c2, c3, e⟩ := sl1_loop hJ hc s hid hn (P := P) (Q := Q) hA (fun x hx => hAB x hx y (by simp)) (hN y (by simp)) (by simp at ht; omega) (n + 1) 0 A.length (Nat.zero_le _) (Nat.le_refl _) (by omega) (fun t ht h => absurd h (Nat.not_lt_zero t)) (fun t ht h => absurd ht (by omega))
        have db : A = A.take q ++ A.drop q := (List.take_append_drop q A).symm
        have l1 : (A.take q).length = q := by rw [List.length_take]; omega
        have l2 : (A.drop q).length = A.length - q := List.length_drop
        have m1 : ∀ x ∈ A.take q, lt x y := by
          intro x hx
          obtain ⟨t, ht1, rfl⟩ := List.getElem_of_mem hx
          rw [List.getElem_take]
          exact c2 t (by omega) (by omega)
        have m2 : ∀ x ∈ A.drop q, lt y x := by
          intro x hx
          obtain ⟨t, ht1, rfl⟩ := List.getElem_of_mem hx
          rw [List.getElem_drop]
          exact c3 (q + t) (by omega) (by omega)
        have mg := merge_right s (x := y) (p := A.take q) (q := A.drop q) (by rw [← db]; exact hA) m1 m2
        rw [← db] at mg
        refine ⟨_, mg, fe ?_⟩
        rw [f0]
        have e3 := sl3_loop hJ (y := y) (P := P ++ A.take q) hid hn (A.drop q).reverse Q (n + 1) (by simp; omega) (by simp at ht ⊢; omega)
        have pl : (P ++ A.take q).length = P.length + q := by rw [List.length_append, l1]
        rw [List.reverse_reverse, List.length_reverse, pl, l2, show P.length + q + (A.length - q) = P.length + A.length by omega] at e3
        have sh : P ++ (A ++ ([y] ++ Q)) = (P ++ A.take q) ++ (A.drop q ++ y :: Q) := by
          rw [List.append_assoc, ← List.append_assoc (A.take q), List.take_append_drop]
          rfl
        have sh2 : P ++ ((A.take q ++ y :: A.drop q) ++ Q) = (P ++ A.take q) ++ y :: (A.drop q ++ Q) := by simp
        rw [← sh, ← sh2] at e3
        have one : bin .eql (.int .i64 (([y].length : Nat) : Int)) (.int .i64 1) = some (.bool true) := rfl
        simp only [one, bind_some', condV_true]
        exact e.trans e3
      · have n2 : bin .eql (.int .i64 (B.length : Int)) (.int .i64 1) = some (.bool false) := by
          rw [bin_eql, decide_eq_false (by omega)]
        obtain ⟨v3, v4, v5, q3, q4, q5, q6⟩ := half P.length (P.length + A.length + B.length) (by omega) (by omega)
        have mid : (P.length + (P.length + A.length + B.length)) / 2 = P.length + (A.length + B.length) / 2 := by omega
        rw [mid] at q6
        have bd := lohi_le ha hb
        obtain ⟨q, d0, d1, c2, c3, e⟩ := sl4_loop hJ hc s hid hn hA hB hAB hN ht ha hb (n + 1) (lo0 A.length B.length) (hi0 A.length B.length) bd.1 (Nat.le_refl _) (Nat.le_refl _) (by omega) (fun t _ _ h1 h2 => absurd h2 (by omega)) (fun t _ _ h1 h2 => absurd h2 (by omega))
        obtain ⟨μ, hμ⟩ : ∃ μ, μ = (A.length + B.length) / 2 := ⟨_, rfl⟩
        have qa : q ≤ A.length := by omega
        have qm : q ≤ μ := by omega
        have qb : μ - q ≤ B.length := by omega
        obtain ⟨A1, hA1⟩ : ∃ l, l = A.take q := ⟨_, rfl⟩
        obtain ⟨A2, hA2⟩ : ∃ l, l = A.drop q := ⟨_, rfl⟩
        obtain ⟨B1, hB1⟩ : ∃ l, l = B.take (μ - q) := ⟨_, rfl⟩
        obtain ⟨B2, hB2⟩ : ∃ l, l = B.drop (μ - q) := ⟨_, rfl⟩
        have dA : A = A1 ++ A2 := by rw [hA1, hA2, List.take_append_drop]
        have dB : B = B1 ++ B2 := by rw [hB1, hB2, List.take_append_drop]
        have la1 : A1.length = q := by rw [hA1, List.length_take]; omega
        have la2 : A2.length = A.length - q := by rw [hA2, List.length_drop]
        have lb1 : B1.length = μ - q := by rw [hB1, List.length_take]; omega
        have lb2 : B2.length = B.length - (μ - q) := by rw [hB2, List.length_drop]
        have uA := List.pairwise_append.mp (dA ▸ hA)
        have uB := List.pairwise_append.mp (dB ▸ hB)
        have x12 : ∀ x ∈ A1, ∀ y ∈ B2, lt x y := by
          intro x hx y hy
          rw [hA1] at hx
          rw [hB2] at hy
          obtain ⟨i, hi, rfl⟩ := List.getElem_of_mem hx
          obtain ⟨j, hj, rfl⟩ := List.getElem_of_mem hy
          rw [List.length_take] at hi
          rw [List.length_drop] at hj
          rw [List.getElem_take, List.getElem_drop]
          have hlo : lo0 A.length B.length ≤ q - 1 := by
            unfold lo0
            split <;> omega
          have hk := c2 (q - 1) (by omega) (by omega) hlo (by omega)
          have t1 : lt A[i] A[q - 1] ∨ A[i] = A[q - 1] := by
            rcases Nat.lt_or_ge i (q - 1) with h | h
            · exact .inl (List.pairwise_iff_getElem.mp hA i (q - 1) (by omega) (by omega) h)
            · have : i = q - 1 := by omega
              subst this; exact .inr rfl
          have t2 : lt (B[(A.length + B.length) / 2 - 1 - (q - 1)]'(by omega)) (B[μ - q + j]'(by omega)) ∨ B[(A.length + B.length) / 2 - 1 - (q - 1)]'(by omega) = B[μ - q + j]'(by omega) := by
            rcases Nat.lt_or_ge ((A.length + B.length) / 2 - 1 - (q - 1)) (μ - q + j) with h | h
            · exact .inl (List.pairwise_iff_getElem.mp hB _ _ (by omega) (by omega) h)
            · right
              congr 1
              omega
          have t3 : lt A[i] (B[(A.length + B.length) / 2 - 1 - (q - 1)]'(by omega)) := t1.elim (fun h => s.trans h hk) (fun h => h ▸ hk)
          exact t2.elim (fun h => s.trans t3 h) (fun h => h ▸ t3)
        have x21 : ∀ x ∈ B1, ∀ y ∈ A2, lt x y := by
          intro x hx y hy
          rw [hB1] at hx
          rw [hA2] at hy
          obtain ⟨i, hi, rfl⟩ := List.getElem_of_mem hx
          obtain ⟨j, hj, rfl⟩ := List.getElem_of_mem hy
          rw [List.length_take] at hi
          rw [List.length_drop] at hj
          rw [List.getElem_take, List.getElem_drop]
          have hhi : q < hi0 A.length B.length := by
            unfold hi0
            split <;> omega
          have hk := c3 q (by omega) (by omega) (Nat.le_refl _) hhi
          have t1 : lt B[i] (B[(A.length + B.length) / 2 - 1 - q]'(by omega)) ∨ B[i] = B[(A.length + B.length) / 2 - 1 - q]'(by omega) := by
            rcases Nat.lt_or_ge i ((A.length + B.length) / 2 - 1 - q) with h | h
            · exact .inl (List.pairwise_iff_getElem.mp hB _ _ (by omega) (by omega) h)
            · right
              congr 1
              omega
          have t2 : lt (A[q]'(by omega)) (A[q + j]'(by omega)) ∨ A[q]'(by omega) = A[q + j]'(by omega) := by
            rcases Nat.eq_zero_or_pos j with h | h
            · right
              congr 1
              omega
            · exact .inl (List.pairwise_iff_getElem.mp hA q (q + j) (by omega) (by omega) (by omega))
          have t3 : lt B[i] (A[q]'(by omega)) := t1.elim (fun h => s.trans h hk) (fun h => h ▸ hk)
          exact t2.elim (fun h => s.trans t3 h) (fun h => h ▸ t3)
        have cross : ∀ x y, (x ∈ A1 ∨ x ∈ B1) → (y ∈ A2 ∨ y ∈ B2) → lt x y := by
          rintro x y (hx | hx) (hy | hy)
          · exact uA.2.2 x hx y hy
          · exact x12 x hx y hy
          · exact x21 x hx y hy
          · exact uB.2.2 x hx y hy
        have mA1 : ∀ x ∈ A1, x ∈ A := fun x hx => by rw [dA]; exact List.mem_append_left _ hx
        have mA2 : ∀ x ∈ A2, x ∈ A := fun x hx => by rw [dA]; exact List.mem_append_right _ hx
        have mB1 : ∀ x ∈ B1, x ∈ B := fun x hx => by rw [dB]; exact List.mem_append_left _ hx
        have mB2 : ∀ x ∈ B2, x ∈ B := fun x hx => by rw [dB]; exact List.mem_append_right _ hx
        have half1 : ∃ R1, IsMerge lt R1 A1 B1 ∧ slices_symMergeCmpFunc_int.j1 (slices_symMergeCmpFunc_int.JD (n + 1)) (SL id n) (.int .i64 (P.length : Int)) (.int .i64 ((P.length + A.length + B.length : Nat) : Int)) f (.int .i64 ((P.length + μ : Nat) : Int)) (.int .i64 ((P.length + q : Nat) : Int)) (.int .i64 ((P.length + A.length + (μ - q) : Nat) : Int)) (S h id (P ++ (A1 ++ (B1 ++ (A2 ++ (B2 ++ Q)))))) = slices_symMergeCmpFunc_int.j3 (slices_symMergeCmpFunc_int.JD (n + 1)) (SL id n) (.int .i64 ((P.length + A.length + B.length : Nat) : Int)) f (.int .i64 ((P.length + μ : Nat) : Int)) (.int .i64 ((P.length + A.length + (μ - q) : Nat) : Int)) (S h id (P ++ (R1 ++ (A2 ++ (B2 ++ Q))))) := by
          by_cases hq : 0 < q ∧ q < μ
          · obtain ⟨R1, mg, e1⟩ := sym_den hc s hid hn k P A1 B1 (A2 ++ (B2 ++ Q)) (by omega) (by omega) (by omega) uA.1 uB.1 (fun x hx y hy => hAB x (mA1 x hx) y (mB1 y hy)) (fun y hy => hN y (mB1 y hy)) (by simp; omega)
            refine ⟨R1, mg, ?_⟩
            rw [la1, lb1, show P.length + q + (μ - q) = P.length + μ by omega] at e1
            rw [slices_symMergeCmpFunc_int.j1_eq hJ]
            simp only [lssN, decide_eq_true (show P.length < P.length + q by omega), bind_some', condV_true, decide_eq_true (show P.length + q < P.length + μ by omega)]
            rw [slices_symMergeCmpFunc_int.j4_eq hJ]
            simp only [condV_true, SL_canon, canon_int, hc.canon, e1, bind_some', retOr_ret]
          · refine ⟨A1 ++ B1, ?_, ?_⟩
            · rcases Nat.eq_zero_or_pos q with h0 | h0
              · have : A1 = [] := List.eq_nil_of_length_eq_zero (by omega)
                rw [this, List.nil_append]; exact merge_nil_left uB.1
              · have : B1 = [] := List.eq_nil_of_length_eq_zero (by omega)
                rw [this, List.append_nil]; exact merge_nil_right uA.1
            · rw [slices_symMergeCmpFunc_int.j1_eq hJ, List.append_assoc]
              simp only [lssN, bind_some']
              rcases Nat.eq_zero_or_pos q with h0 | h0
              · simp only [decide_eq_false (show ¬ P.length < P.length + q by omega), condV_false]
                rw [slices_symMergeCmpFunc_int.j4_eq hJ, condV_false]
              · simp only [decide_eq_true (show P.length < P.length + q by omega), condV_true, decide_eq_false (show ¬ P.length + q < P.length + μ by omega)]
                rw [slices_symMergeCmpFunc_int.j4_eq hJ, condV_false]
        obtain ⟨R1, mg1, e1⟩ := half1
        have lr1 : R1.length = μ := by rw [mg1.len]; omega
        have half2 : ∃ R2, IsMerge lt R2 A2 B2 ∧ slices_symMergeCmpFunc_int.j3 (slices_symMergeCmpFunc_int.JD (n + 1)) (SL id n) (.int .i64 ((P.length + A.length + B.length : Nat) : Int)) f (.int .i64 ((P.length + μ : Nat) : Int)) (.int .i64 ((P.length + A.length + (μ - q) : Nat) : Int)) (S h id (P ++ (R1 ++ (A2 ++ (B2 ++ Q))))) = some (.ret (.tuple []), S h id (P ++ (R1 ++ (R2 ++ Q)))) := by
          have pl : (P ++ R1).length = P.length + μ := by rw [List.length_append, lr1]
          by_cases hq : q < A.length ∧ μ - q < B.length
          · obtain ⟨R2, mg, e2⟩ := sym_den hc s hid hn k (P ++ R1) A2 B2 Q (by omega) (by omega) (by omega) uA.2.1 uB.2.1 (fun x hx y hy => hAB x (mA2 x hx) y (mB2 y hy)) (fun y hy => hN y (mB2 y hy)) (by rw [pl]; omega)
            refine ⟨R2, mg, ?_⟩
            rw [pl, la2, lb2, show P.length + μ + (A.length - q) = P.length + A.length + (μ - q) by omega, show P.length + A.length + (μ - q) + (B.length - (μ - q)) = P.length + A.length + B.length by omega, List.append_assoc, List.append_assoc] at e2
            rw [slices_symMergeCmpFunc_int.j3_eq hJ]
            simp only [lssN, decide_eq_true (show P.length + μ < P.length + A.length + (μ - q) by omega), bind_some', condV_true, decide_eq_true (show P.length + A.length + (μ - q) < P.length + A.length + B.length by omega)]
            rw [slices_symMergeCmpFunc_int.j5_eq hJ]
            simp only [condV_true, SL_canon, canon_int, hc.canon, e2, bind_some', retOr_ret]
          · refine ⟨A2 ++ B2, ?_, ?_⟩
            · by_cases h0 : q < A.length
              · have : B2 = [] := List.eq_nil_of_length_eq_zero (by omega)
                rw [this, List.append_nil]; exact merge_nil_right uA.2.1
              · have : A2 = [] := List.eq_nil_of_length_eq_zero (by omega)
                rw [this, List.nil_append]; exact merge_nil_left uB.2.1
            · rw [slices_symMergeCmpFunc_int.j3_eq hJ, List.append_assoc]
              simp only [lssN, bind_some']
              by_cases h0 : q < A.length
              · simp only [decide_eq_true (show P.length + μ < P.length + A.length + (μ - q) by omega), condV_true, decide_eq_false (show ¬ P.length + A.length + (μ - q) < P.length + A.length + B.length by omega)]
                rw [slices_symMergeCmpFunc_int.j5_eq hJ, condV_false]
              · simp only [decide_eq_false (show ¬ P.length + μ < P.length + A.length + (μ - q) by omega), condV_false]
                rw [slices_symMergeCmpFunc_int.j5_eq hJ, condV_false]
        obtain ⟨R2, mg2, e2⟩ := half2
        have mg := merge_app mg1 mg2 cross
        rw [← dA, ← dB] at mg
        refine ⟨R1 ++ R2, mg, fe ?_⟩
        rw [f0, n2]
        simp only [bind_some', condV_false, q3, q4, q5, q6, addN (show P.length + (A.length + B.length) / 2 < 2 ^ 60 by omega) (show P.length + A.length < 2 ^ 60 by omega), gtrN]
        have start : slices_symMergeCmpFunc_int.l4 (slices_symMergeCmpFunc_int.JD (n + 1)) (n + 1) (SL id n) (.int .i64 (P.length : Int)) (.int .i64 ((P.length + A.length : Nat) : Int)) (.int .i64 ((P.length + A.length + B.length : Nat) : Int)) f (.int .i64 ((P.length + (A.length + B.length) / 2 : Nat) : Int)) (.int .i64 ((P.length + (A.length + B.length) / 2 + (P.length + A.length) : Nat) : Int)) (.int .i64 ((P.length + lo0 A.length B.length : Nat) : Int)) (.int .i64 ((P.length + hi0 A.length B.length : Nat) : Int)) (.int .i64 ((P.length + (A.length + B.length) / 2 + (P.length + A.length) - 1 : Nat) : Int)) (S h id (P ++ (A ++ (B ++ Q)))) = some (.ret (.tuple []), S h id (P ++ (R1 ++ R2 ++ Q))) := by
          rw [e, slices_symMergeCmpFunc_int.j2_eq hJ, ← hμ]
          have fin := e1.trans e2
          rw [List.append_assoc]
          by_cases hr : q < A.length ∧ q < μ
          · rw [decide_eq_true hr]
            have pl : (P ++ A1).length = P.length + q := by rw [List.length_append, la1]
            have rt := rot_den hc.canon hid hn (U := A2) (V := B1) (P := P ++ A1) (Q := B2 ++ Q) (by omega) (by omega) (by rw [pl]; simp; omega)
            rw [pl, la2, lb1, show P.length + q + (A.length - q) = P.length + A.length by omega] at rt
            have s1 : P ++ (A ++ (B ++ Q)) = (P ++ A1) ++ (A2 ++ (B1 ++ (B2 ++ Q))) := by rw [dA, dB]; simp
            have s2 : (P ++ A1) ++ (B1 ++ (A2 ++ (B2 ++ Q))) = P ++ (A1 ++ (B1 ++ (A2 ++ (B2 ++ Q)))) := by simp
            rw [s2] at rt
            rw [s1]
            simp only [condV_true, SL_canon, canon_int, hc.canon, rt, bind_some', retOr_ret]
            exact fin
          · rw [decide_eq_false hr, condV_false]
            have s1 : P ++ (A ++ (B ++ Q)) = P ++ (A1 ++ (B1 ++ (A2 ++ (B2 ++ Q)))) := by
              by_cases h0 : q < A.length
              · have : B1 = [] := List.eq_nil_of_length_eq_zero (by omega)
                rw [dA, dB, this]; simp
              · have : A2 = [] := List.eq_nil_of_length_eq_zero (by omega)
                rw [dA, dB, this]; simp
            rw [s1]
            exact fin
        by_cases hg : P.length + (A.length + B.length) / 2 < P.length + A.length
        · have b1 : lo0 A.length B.length = (A.length + B.length) / 2 - B.length := by unfold lo0; rw [if_pos (by omega)]
          have b2 : hi0 A.length B.length = (A.length + B.length) / 2 := by unfold hi0; rw [if_pos (by omega)]
          have b3 : P.length + (A.length + B.length) / 2 + (P.length + A.length) - (P.length + A.length + B.length) = P.length + lo0 A.length B.length := by rw [b1]; omega
          simp only [decide_eq_true hg, condV_true, subN (show P.length + (A.length + B.length) / 2 + (P.length + A.length) < 2 ^ 60 by omega) (show P.length + A.length + B.length ≤ P.length + (A.length + B.length) / 2 + (P.length + A.length) by omega), b3, bind_some']
          rw [slices_symMergeCmpFunc_int.j0_eq hJ]
          simp only [sub1 (show P.length + (A.length + B.length) / 2 + (P.length + A.length) < 2 ^ 60 by omega) (by omega), bind_some']
          rw [b2] at start
          exact start
        · have b1 : lo0 A.length B.length = 0 := by unfold lo0; rw [if_neg (by omega)]
          have b2 : hi0 A.length B.length = A.length := by unfold hi0; rw [if_neg (by omega)]
          simp only [decide_eq_false hg, condV_false]
          rw [slices_symMergeCmpFunc_int.j0_eq hJ]
          simp only [sub1 (show P.length + (A.length + B.length) / 2 + (P.length + A.length) < 2 ^ 60 by omega) (by omega), bind_some']
          rw [b1, b2] at start
          exact start
end
end Go.Proofs.Ytdggnlgklicbdaa
