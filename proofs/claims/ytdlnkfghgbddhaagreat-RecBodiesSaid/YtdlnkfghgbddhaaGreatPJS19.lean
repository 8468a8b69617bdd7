/- What the functions of the records' layer come to: 19: a batch's bytes, by the program. -/
import Derived.Test.YtdlnkfghgbddhaaGreatPJS18
set_option linter.all false

open Go Go.Ve Go.Proofs
namespace Go.Proofs.YtdlnkfghgbddhaaGreat
set_option maxRecDepth 100000
set_option linter.all false

theorem cv32 (n : Nat) : cvInt .u32 (.int .u64 (n : Int)) = some (.int .u32 ((n % 4294967296 : Nat) : Int)) := by
  rw [cvInt_int]
  have e := wrap_32 (BitVec.ofNat 32 n)
  rw [BitVec.toNat_ofNat] at e
  have : IntKind.wrap .u32 (n : Int) = IntKind.wrap .u32 ((n % 2 ^ 32 : Nat) : Int) := by
    simp [IntKind.wrap, IntKind.bits, IntKind.signed]
  rw [this, e]
theorem kinds_keep (h : H) : Keep [] h ((h ++ [.arr [Fn1 n_rec_kinds_c1] false]) ++ [.map (kindsM h.length)]) := Keep.app.trans .app
theorem body_loop {J : Jn (AEnd × H)} {k : Nat} (hJ : rec_body.F D (k + 4) J) (pen pi : Nat) (hne : pi ≠ pen) (l : List Change) (hl : l.length ≤ 512) (hok : l.all Change.ok = true) : ∀ (d i m : Nat) (b : List UInt8) (h : H), i + d = l.length → d < m → h[pi]? = some (.arr [.ptr pen 0] false) → PenAt h pen b → b.length + 500 * d ≤ 2 ^ 30 →
    ∃ h', rec_body.l0 J m (.ptr pi 0) (CL l) (.int .i64 l.length) (.int .i64 i) h = some (.ret (BL (b ++ (l.drop i).flatMap chB) (.own 1)), h') ∧ Keep [pen] h h'
  | 0, i, m + 1, b, h, hi, _, hp, w, hb => by
    rw [rec_body.l0_eq hJ, List.drop_of_length_le (by omega), List.flatMap_nil, List.append_nil]
    refine ⟨h, ?_, .refl _ _⟩
    simp only [lssN, decide_eq_false (show ¬ i < l.length by omega), bind_some', condV_false, fAddr_ptr, ld_at hp, ptr0, canon_ptr, penBytes_den h pen b w (by omega), retOr_ret]
  | d + 1, i, m + 1, b, h, hi, hm, hp, w, hb => by
    have hil : i < l.length := by omega
    have hx : l[i].ok = true := List.all_eq_true.mp hok _ (List.getElem_mem hil)
    rw [rec_body.l0_eq hJ, List.drop_eq_getElem_cons hil, List.flatMap_cons]
    generalize hxx : l[i] = x at hx
    have hk := ok_kind hx
    obtain ⟨G, hG⟩ : ∃ G, G = h ++ [AObj.arr x.c false] := ⟨_, rfl⟩
    have kG : Keep [] h G := hG ▸ Keep.app
    have lp := w.lt
    have s0 : PS pen pi h.length x.c b G := ⟨kG.get hp (by simp), hG ▸ get_new, Keep.pen kG w (by simp), hne, by omega⟩
    have st : stN 11 (h ++ [AObj.arr [.int .i64 0, .int .u64 0, .int .i64 0, .int .i64 0, .str [], .str [], .int .i64 0, .str [], .int .i64 0, .int .i64 0, .str []] false]) (.ptr h.length 0) (.agg x.c) = some (.undef, G) := by
      rw [st_agg (n := 11) get_new (by rw [Change.c_len]; decide) x.c_len x.c_one, set_new, hG]
      simp
    have l1 := lebB_10 (n := x.kind.toNat) (by omega)
    have l2 := chB_len hx
    obtain ⟨h1, e1, k1, s1⟩ := s0.num x.kind.toNat (by omega) (by omega)
    obtain ⟨h2, e2, k2, s2⟩ := s1.word (x.entry.finger.val % 4294967296) (by simp; omega)
    obtain ⟨h3, e3, k3, s3⟩ := s2.word (x.entry.finger.val / 4294967296) (by simp [wdB]; omega)
    have kk := kinds_keep h3
    have s4 := PS.keep s3 kk.nil (Keep.pen kk s3.w (by simp))
    have gm : ((h3 ++ [AObj.arr [Fn1 n_rec_kinds_c1] false]) ++ [AObj.map (kindsM h3.length)])[h3.length + 1]? = some (.map (kindsM h3.length)) := by
      have := get_new (h := h3 ++ [AObj.arr [Fn1 n_rec_kinds_c1] false]) (x := .map (kindsM h3.length))
      simpa using this
    have ek := kinds_den h3
    generalize hH : ((h3 ++ [AObj.arr [Fn1 n_rec_kinds_c1] false]) ++ [AObj.map (kindsM h3.length)]) = h4 at kk s4 gm ek
    obtain ⟨V, n, h5, v1, v2, v3, k5, s5⟩ := puts_den (z := h3.length) hJ (m0 := m) (m1 := k) (c := i) (A := CL l) (B := .int .i64 l.length) (by omega) hx s4 (by simp [wdB]; omega)
    obtain ⟨h', e', k'⟩ := body_loop hJ pen pi hne l hl hok d (i + 1) m _ h5 (by omega) (by omega) s5.p s5.w (by simp [chB, fiB, wdB] at l2 ⊢; omega)
    refine ⟨h', ?_, (kG.nil.trans (k1.trans (k2.trans (k3.trans (kk.nil.trans (k5.trans k'))))))⟩
    simp only [lssN, decide_eq_true hil, bind_some', condV_true, CL_at hil, hxx, ldAgg_rptr, Change.agg, copy_agg, Change.c_copy, st, fAddr_ptr, ld_at s0.p, ptr0, ld_at s0.e, x.c0, cvU (show 0 ≤ x.kind by omega) (show x.kind ≤ 2 ^ 62 by omega), canon_ptr, canon_int, e1, retOr_ret]
    have q : x.entry.finger.val / 4294967296 % 4294967296 = x.entry.finger.val / 4294967296 := Nat.mod_eq_of_lt (by have := x.entry.finger.isLt; omega)
    have sh := shr_u64 (n := x.entry.finger.val) (k := 32) (by omega)
    rw [show ((2 : Nat) ^ 32) = 4294967296 from rfl, show (((32 : Nat) : Int)) = 32 from rfl] at sh
    simp only [ld_at s1.p, ptr0, ld_at s1.e, x.fing, bind_some', cv32, canon_ptr, canon_int, e2, retOr_ret, ld_at s2.p, ld_at s2.e, sh, q, e3, ek]
    have lk := lk_kinds gm x.kind false
    rw [show (AV.agg K0) = .agg [.list [] .cap, .list [] .cap, .nilFunc] from rfl] at lk
    simp only [ld_at s4.e, ld_at s3.e, x.c0, bind_some', eqO, eqb_self, whenB_true, lk, Bool.false_eq_true, if_false, fCell_agg, v1, v2]
    refine v3.trans (e'.trans ?_)
    simp [chB, fiB, List.append_assoc]
theorem body_den (l : List Change) (hb : batch l = true) (h : H) : D n_rec_body [CL l] h = some (.ret (BL (bodyB l) (.own 1)), h) := by
  unfold batch at hb
  simp only [Bool.and_eq_true, decide_eq_true_eq] at hb
  obtain ⟨h1, e1, k1, w1⟩ := new_den []
  obtain ⟨G, hG⟩ : ∃ G, G = h1 ++ [AObj.arr [.ptr 0 0] false] := ⟨_, rfl⟩
  have kG : Keep [] h1 G := hG ▸ Keep.app
  have st : stN 1 (h1 ++ [AObj.arr [.nilPtr] false]) (.ptr h1.length 0) (.agg [.ptr 0 0]) = some (.undef, G) := by
    rw [st_agg (n := 1) get_new (by simp) rfl rfl, set_new, hG]
    rfl
  have gp : G[h1.length]? = some (.arr [.ptr 0 0] false) := hG ▸ get_new
  have l10 := lebB_10 (n := l.length) (by omega)
  have lw := w1.lt
  simp only [List.length_nil] at w1 lw e1
  obtain ⟨h2, e2, k2, w2⟩ := penU_den G 0 l.length [] (Keep.pen kG w1 (by simp)) (by omega) (by simp)
  obtain ⟨h3, e3, k3⟩ := body_loop (rec_body.fx (l.length + 4)) 0 h1.length (by omega) l hb.2.2 hb.1 l.length 0 (l.length + 4) _ h2 (by omega) (by omega) (k2.get gp (by simp only [List.mem_singleton]; omega)) w2 (by simp; omega)
  refine rec_body.den (l.length + 4) (by simp) (h' := h3) ?_ (by simp [AV.pure]) rfl
  rw [rec_body.f_eq (rec_body.fx _)]
  simp only [e1, bind_some', retOr_ret, copy_ptr]
  rw [show mkAgg [.nilPtr] [(0, 1, .ptr 0 0)] = some (.agg [.ptr 0 0]) from rfl]
  simp only [bind_some', st, fAddr_ptr, ld_at gp, ptr0, CL_len, cvInt_int, wrap_u64 (show (0 : Int) ≤ (l.length : Int) by omega) (show (l.length : Int) ≤ 18446744073709551615 by omega), canon_ptr, canon_int, e2, retOr_ret]
  exact e3
theorem bc1_den (x : Change) (h : H) : callVal D h (.func (.func n_rec_batch_c1) [] []) [.agg x.c] = some (.ret (.bool (!x.ok)), h) := by
  refine rec_batch_c1.den 1 (by simp [pureL, AV.pure]) (h' := [.arr x.c false]) ?_ rfl rfl
  have g : ([AObj.arr x.c false] : H)[0]? = some (.arr x.c false) := rfl
  rw [rec_batch_c1.f_eq (rec_batch_c1.fx _)]
  rw [copy_agg, Change.c_copy, bx_agg x.c_one]
  simp only [bind_some', List.length_nil, List.nil_append, ldA_at g, Change.agg, canon_agg, Change.c_canon, check_den, retOr_ret, bin_neq, copy_bool]
  cases x.ok <;> rfl
theorem bad_loop {J : Jn (AEnd × H)} {k : Nat} (hJ : slices_IndexFunc_api_Change_api_Change.F D k J) (l : List Change) (hl : l.length ≤ 2 ^ 50) (h : H) : ∀ (d i m : Nat), i + d = l.length → d < m →
    ∃ r, slices_IndexFunc_api_Change_api_Change.l0 J m (CL l) (.func (.func n_rec_batch_c1) [] []) (.int .i64 l.length) (.int .i64 i) h = some (.ret (.int .i64 r), h) ∧ (r ≥ 0 ↔ (l.drop i).all Change.ok = false)
  | 0, i, m + 1, hi, _ => by
    rw [slices_IndexFunc_api_Change_api_Change.l0_eq hJ, List.drop_of_length_le (by omega)]
    refine ⟨-1, ?_, by simp⟩
    simp only [lssN, decide_eq_false (show ¬ i < l.length by omega), bind_some', condV_false]
  | d + 1, i, m + 1, hi, hm => by
    have hil : i < l.length := by omega
    obtain ⟨r, e, q⟩ := bad_loop hJ l hl h d (i + 1) m (by omega) (by omega)
    rw [slices_IndexFunc_api_Change_api_Change.l0_eq hJ, List.drop_eq_getElem_cons hil, List.all_cons]
    simp only [lssN, decide_eq_true hil, bind_some', condV_true, CL_at hil, ldAgg_rptr, Change.agg, canon_agg, Change.c_canon, bc1_den, retOr_ret, add1 i (by omega), copy_int]
    cases l[i].ok with
    | false => exact ⟨i, rfl, by simp⟩
    | true => exact ⟨r, e, by simpa using q⟩
theorem batch_den (l : List Change) (hl : l.length ≤ 2 ^ 50) (h : H) : D n_rec_batch [CL l] h = some (.ret (.bool (batch l)), h) := by
  obtain ⟨r, e, q⟩ := bad_loop (slices_IndexFunc_api_Change_api_Change.fx (l.length + 1)) l hl [] l.length 0 (l.length + 1) (by omega) (by omega)
  have d1 : ∀ h, D n_slices_IndexFunc_api_Change_api_Change [CL l, .func (.func n_rec_batch_c1) [] []] h = some (.ret (.int .i64 r), h) := by
    intro h
    refine slices_IndexFunc_api_Change_api_Change.den (l.length + 1) (by simp [pureL, AV.pure]) (h' := []) ?_ rfl rfl
    rw [slices_IndexFunc_api_Change_api_Change.f_eq (slices_IndexFunc_api_Change_api_Change.fx _)]
    simp only [CL_len, bind_some']
    exact e
  have d2 : ∀ h, D n_slices_ContainsFunc_api_Change_api_Change [CL l, .func (.func n_rec_batch_c1) [] []] h = some (.ret (.bool (decide (r ≥ 0))), h) := by
    intro h
    refine slices_ContainsFunc_api_Change_api_Change.den 1 (by simp [pureL, AV.pure]) (h' := []) ?_ rfl rfl
    rw [slices_ContainsFunc_api_Change_api_Change.f_eq (slices_ContainsFunc_api_Change_api_Change.fx _)]
    simp only [canon_list, canon_func, d1, bind_some', retOr_ret, bin_geq, copy_bool]
  refine rec_batch.den 1 (by simp) (h' := []) ?_ rfl rfl
  rw [rec_batch.f_eq (rec_batch.fx _), show (.int .i64 1 : AV) = .int .i64 ((1 : Nat) : Int) from rfl, show (.int .i64 512 : AV) = .int .i64 ((512 : Nat) : Int) from rfl]
  simp only [CL_len, bind_some', geqN, leqN, canon_list, canon_func, d2, retOr_ret, not_bool, copy_bool]
  have q' : (!decide (r ≥ 0)) = l.all Change.ok := by
    rw [List.drop_zero] at q
    cases hx : l.all Change.ok with
    | true => rw [hx] at q; simp only [Bool.not_eq_eq_eq_not, Bool.not_true, decide_eq_false_iff_not]; intro h; exact Bool.noConfusion (q.1 h)
    | false => rw [hx] at q; simp only [Bool.not_eq_eq_eq_not, Bool.not_false, decide_eq_true_eq]; exact q.2 rfl
  rw [q']
  unfold batch
  cases l.all Change.ok <;> cases decide (1 ≤ l.length) <;> cases decide (l.length ≤ 512) <;> rfl
/-- A batch's bytes: its body as a text, with the sum. -/
def frame (b : List UInt8) : List UInt8 := txB b ++ wdB (crcB (txB b)).toNat
theorem recPut_den (l : List Change) (hl : l.length ≤ 2 ^ 50) (h : H) : D n_rec_Put [CL l] h = some (.ret (if batch l then .tuple [BL (frame (bodyB l)) (.own 1), .int .i64 0] else .tuple [.list [] .cap, .int .i64 270]), h) := by
  cases hb : batch l with
  | false =>
    refine rec_Put.den 1 (by simp) (h' := []) ?_ rfl rfl
    rw [rec_Put.f_eq (rec_Put.fx _)]
    simp only [canon_list, batch_den l hl, hb, bind_some', retOr_ret, not_bool, Bool.not_false, condV_true]
    rfl
  | true =>
    have bl := bodyB_len hb
    have tl := txB_len (s := bodyB l) (by omega)
    obtain ⟨h1, e1, k1, w1⟩ := new_den []
    simp only [List.length_nil] at w1 e1
    obtain ⟨h2, e2, k2, w2⟩ := penText_den h1 0 [] (bodyB l) w1 (by simp; omega)
    rw [List.nil_append] at w2
    have e3 := penBytes_den h2 0 _ w2 (by omega)
    obtain ⟨h3, e4, k4, w3⟩ := penWord_den h2 0 (crcB (txB (bodyB l))).toNat _ w2 (by omega)
    have e5 := penBytes_den h3 0 _ w3 (by simp [wdB]; omega)
    refine rec_Put.den 1 (by simp) (h' := h3) ?_ (by simp [AV.pure]) rfl
    rw [rec_Put.f_eq (rec_Put.fx _)]
    simp only [canon_list, batch_den l hl, hb, bind_some', retOr_ret, not_bool, Bool.not_true, condV_false, e1, body_den l hb, BL_toStr, canon_ptr, canon_str, e2, e3, crcSum_den _ _ (show (txB (bodyB l)).length ≤ 2 ^ 40 by omega), canon_int, e4, e5]
    rfl
end Go.Proofs.YtdlnkfghgbddhaaGreat
