/- What the functions of the records' layer come to: 8: the document's reader. -/
import Derived.Test.YtdlnkfghgbddhaaGreatPJS7
set_option linter.all false

open Go Go.Ve Go.Proofs
namespace Go.Proofs.YtdlnkfghgbddhaaGreat
set_option maxRecDepth 100000
set_option linter.all false

theorem dFail_den {h : H} {id e : Nat} {r : Rd} {o : Own} (hr : RdC h id r o) (he : e ≠ 0) : D n_warrantorref02_Reader_Fail [.ptr id 0, .int .i64 e] h = some (.ret (.tuple []), if r.e = 0 then h.set id (.arr ({ r with e := e }.cells o) false) else h) := by
  refine warrantorref02_Reader_Fail.den 1 ?_ rfl
  rw [warrantorref02_Reader_Fail.f_eq (warrantorref02_Reader_Fail.fx 1)]
  simp only [bin_eql, bind_some', decide_eq_false (show ¬ ((e : Int) = 0) by omega), condV_false]
  rw [warrantorref02_Reader_Fail.j0_eq (warrantorref02_Reader_Fail.fx 1)]
  simp only [bind_some', nilOk_ptr, fAddr_ptr, ld_at hr, cell2, bin_eql]
  by_cases h0 : r.e = 0
  · simp only [if_pos h0, decide_eq_true (show ((r.e : Int) = 0) by omega), condV_true, copy_int, st_e hr, bind_some']
  · simp only [if_neg h0, decide_eq_false (show ¬ ((r.e : Int) = 0) by omega), condV_false]
theorem dU_den {h : H} {id : Nat} {r : Rd} {o : Own} (hr : RdC h id r o) (hk : r.ok) : ∃ h', D n_warrantorref02_Reader_U [.ptr id 0] h = some (.ret (.int .u64 (rdU r).1), h') ∧ Keep [id] h h' ∧ RdC h' id (rdU r).2 o := by
  obtain ⟨h1, h2, h3⟩ := hk
  have f := lebG_facts (r.b.drop r.p)
  rw [List.length_drop] at f
  have step : ∀ {v : AV} {h' : H}, warrantorref02_Reader_U.f (warrantorref02_Reader_U.JD 1) (.ptr id 0) h = some (.ret v, h') → retOk Tryz.f119 (.ret v) = true → D n_warrantorref02_Reader_U [.ptr id 0] h = some (.ret v, h') := fun {v h'} e hx => warrantorref02_Reader_U.den 1 e hx
  rw [warrantorref02_Reader_U.f_eq (warrantorref02_Reader_U.fx 1)] at step
  simp only [nilOk_ptr, fAddr_ptr, bind_some', ld_at hr, cell0, cell1, cell2, bin_neq] at step
  unfold rdU
  by_cases he : r.e = 0
  · rw [if_neg (by omega)]
    simp only [decide_eq_false (show ¬ ((r.e : Int) ≠ 0) by omega), condV_false, BL_from h1, BL_canon, rGet_den (r.b.drop r.p) (by rw [List.length_drop]; omega) h, bind_some', retOr_ret, exTuple_eq] at step
    rw [show ([AV.int .u64 ((lebG (r.b.drop r.p)).1 : Int), .int .i64 ((lebG (r.b.drop r.p)).2.1 : Int), .int .i64 ((lebG (r.b.drop r.p)).2.2 : Int)])[0]? = some (.int .u64 ((lebG (r.b.drop r.p)).1 : Int)) from rfl, show ([AV.int .u64 ((lebG (r.b.drop r.p)).1 : Int), .int .i64 ((lebG (r.b.drop r.p)).2.1 : Int), .int .i64 ((lebG (r.b.drop r.p)).2.2 : Int)])[1]? = some (.int .i64 ((lebG (r.b.drop r.p)).2.1 : Int)) from rfl, show ([AV.int .u64 ((lebG (r.b.drop r.p)).1 : Int), .int .i64 ((lebG (r.b.drop r.p)).2.1 : Int), .int .i64 ((lebG (r.b.drop r.p)).2.2 : Int)])[2]? = some (.int .i64 ((lebG (r.b.drop r.p)).2.2 : Int)) from rfl] at step
    simp only [bind_some', bin_neq] at step
    by_cases hl : (lebG (r.b.drop r.p)).2.2 = 0
    · rw [if_neg (by omega)]
      simp only [decide_eq_false (show ¬ (((lebG (r.b.drop r.p)).2.2 : Int) ≠ 0) by omega), condV_false, nilOk_ptr, fAddr_ptr, bind_some', ld_at hr, cell1, bin_add, copy_int] at step
      rw [wrap_i64 (by omega) (by omega), show ((r.p : Int) + ((lebG (r.b.drop r.p)).2.1 : Int)) = ((r.p + (lebG (r.b.drop r.p)).2.1 : Nat) : Int) from rfl, st_p hr] at step
      exact ⟨_, step rfl rfl, .set (by simp), get_set hr⟩
    · rw [if_pos hl]
      have ef := dFail_den hr (e := (lebG (r.b.drop r.p)).2.2) hl
      rw [if_pos he] at ef
      simp only [decide_eq_true (show (((lebG (r.b.drop r.p)).2.2 : Int) ≠ 0) by omega), condV_true, canon_ptr, canon_int, ef, bind_some', retOr_ret] at step
      exact ⟨_, step rfl rfl, .set (by simp), get_set hr⟩
  · rw [if_pos he]
    simp only [decide_eq_true (show ((r.e : Int) ≠ 0) by omega), condV_true] at step
    exact ⟨_, step rfl rfl, .refl _ _, hr⟩
theorem dTake_den {h : H} {id n : Nat} {r : Rd} {o : Own} (hr : RdC h id r o) (hk : r.ok) (hn : n ≤ 2 ^ 40) :
    ∃ h', Keep [id] h h' ∧ (if r.e ≠ 0 then D n_warrantorref02_Reader_take [.ptr id 0, .int .i64 n] h = some (.ret (BL [] .cap), h') ∧ RdC h' id r o else if r.b.length - r.p < n then D n_warrantorref02_Reader_take [.ptr id 0, .int .i64 n] h = some (.ret (BL [] .cap), h') ∧ RdC h' id { r with e := 10 } o
      else D n_warrantorref02_Reader_take [.ptr id 0, .int .i64 n] h = some (.ret (BL ((r.b.drop r.p).take n)), h') ∧ RdC h' id { r with p := r.p + n } o) := by
  obtain ⟨h1, h2, h3⟩ := hk
  have step : ∀ {v : AV} {h' : H}, warrantorref02_Reader_take.f (warrantorref02_Reader_take.JD 1) (.ptr id 0) (.int .i64 n) h = some (.ret v, h') → retOk Tryz.f152 (.ret v) = true → D n_warrantorref02_Reader_take [.ptr id 0, .int .i64 n] h = some (.ret v, h') := fun {v h'} e hx => warrantorref02_Reader_take.den 1 e hx
  rw [warrantorref02_Reader_take.f_eq (warrantorref02_Reader_take.fx 1)] at step
  simp only [nilOk_ptr, fAddr_ptr, bind_some', ld_at hr, cell0, cell1, cell2, bin_neq, BL_len, bin_sub, bin_gtr] at step
  by_cases he : r.e = 0
  · simp only [if_neg (show ¬ (r.e ≠ 0) by omega)]
    simp only [decide_eq_false (show ¬ ((r.e : Int) ≠ 0) by omega), condV_false, wrap_i64 (show (-9223372036854775808 : Int) ≤ (r.b.length : Int) - (r.p : Int) by omega) (show (r.b.length : Int) - (r.p : Int) ≤ 9223372036854775807 by omega)] at step
    by_cases hx : r.b.length - r.p < n
    · simp only [if_pos hx]
      have ef := dFail_den hr (e := 10) (by decide)
      rw [if_pos he, show (((10 : Nat) : Int)) = 10 from rfl] at ef
      simp only [decide_eq_true (show ((n : Int) > (r.b.length : Int) - (r.p : Int)) by omega), condV_true, canon_ptr, canon_int, ef, bind_some', retOr_ret] at step
      exact ⟨_, .set (by simp), step rfl rfl, get_set hr⟩
    · simp only [if_neg hx]
      have hr' : RdC (h.set id (.arr ({ r with p := r.p + n }.cells o) false)) id { r with p := r.p + n } o := get_set hr
      simp only [decide_eq_false (show ¬ ((n : Int) > (r.b.length : Int) - (r.p : Int)) by omega), condV_false, copy_int, bin_add] at step
      rw [wrap_i64 (by omega) (by omega), show ((r.p : Int) + (n : Int)) = ((r.p + n : Nat) : Int) from rfl] at step
      simp only [bind_some', copy_int, st_p hr, ld_at hr', cell0, cell1, bin_sub] at step
      rw [show (((r.p + n : Nat) : Int) - (n : Int)) = ((r.p : Nat) : Int) by omega, wrap_i64 (by omega) (by omega)] at step
      rw [BL_both (by omega) (by omega)] at step
      rw [List.drop_take, show r.p + n - r.p = n by omega] at step
      exact ⟨_, .set (by simp), step rfl rfl, hr'⟩
  · simp only [if_pos (show r.e ≠ 0 from he)]
    simp only [decide_eq_true (show ((r.e : Int) ≠ 0) by omega), condV_true] at step
    exact ⟨_, .refl _ _, step rfl rfl, hr⟩
theorem dWord_den {h : H} {id : Nat} {r : Rd} (hr : RdAt h id r) (hk : r.ok) : ∃ h', D n_warrantorref02_Reader_Word [.ptr id 0] h = some (.ret (.int .u32 (rdW r).1), h') ∧ Keep [id] h h' ∧ RdAt h' id (rdW r).2 := by
  obtain ⟨o, hr⟩ := hr
  obtain ⟨h', k, e⟩ := dTake_den (n := 4) hr hk (by decide)
  rw [show (((4 : Nat) : Int)) = 4 from rfl] at e
  have step : ∀ {v : AV}, warrantorref02_Reader_Word.f (warrantorref02_Reader_Word.JD 1) (.ptr id 0) h = some (.ret v, h') → retOk Tryz.f116 (.ret v) = true → D n_warrantorref02_Reader_Word [.ptr id 0] h = some (.ret v, h') := fun {v} e hx => warrantorref02_Reader_Word.den 1 e hx
  rw [warrantorref02_Reader_Word.f_eq (warrantorref02_Reader_Word.fx 1)] at step
  unfold rdW
  by_cases he : r.e = 0
  · rw [if_neg (by omega)] at e ⊢
    by_cases hx : r.b.length - r.p < 4
    · rw [if_pos hx] at e ⊢
      simp only [canon_ptr, canon_int, e.1, bind_some', retOr_ret, BL_len, bin_lss] at step
      rw [show decide (((([] : List UInt8).length : Nat) : Int) < 4) = true from rfl, condV_true] at step
      exact ⟨h', step rfl rfl, k, o, e.2⟩
    · rw [if_neg hx] at e ⊢
      have hl : ((r.b.drop r.p).take 4).length = 4 := by simp; omega
      have hw : wdN (r.b.drop r.p) = wdN ((r.b.drop r.p).take 4) := by
        simp [wdN, List.getD_eq_getElem?_getD, List.getElem?_take]
      rw [hw]
      generalize (r.b.drop r.p).take 4 = x at hl e
      have b0 := x[0].toNat_lt
      have b1 := x[1].toNat_lt
      have b2 := x[2].toNat_lt
      have b3 := x[3].toNat_lt
      have i0 := BL_at (k := .i64) (o := .no) (l := x) (i := 0) (by omega)
      have i1 := BL_at (k := .i64) (o := .no) (l := x) (i := 1) (by omega)
      have i2 := BL_at (k := .i64) (o := .no) (l := x) (i := 2) (by omega)
      have i3 := BL_at (k := .i64) (o := .no) (l := x) (i := 3) (by omega)
      rw [show (((0 : Nat) : Int)) = 0 from rfl] at i0
      rw [show (((1 : Nat) : Int)) = 1 from rfl] at i1
      rw [show (((2 : Nat) : Int)) = 2 from rfl] at i2
      rw [show (((3 : Nat) : Int)) = 3 from rfl] at i3
      have w (z : Nat) (hz : z < 2 ^ 32) : IntKind.wrap .u32 (z : Int) = z := by
        have e := wrap_32 (BitVec.ofNat 32 z)
        rw [BitVec.toNat_ofNat, Nat.mod_eq_of_lt hz] at e
        exact e
      have w1 := w (256 * x[1].toNat) (by omega)
      have w2 := w (65536 * x[2].toNat) (by omega)
      have w3 := w (16777216 * x[3].toNat) (by omega)
      have a1 := w (x[0].toNat + 256 * x[1].toNat) (by omega)
      have a2 := w (x[0].toNat + 256 * x[1].toNat + 65536 * x[2].toNat) (by omega)
      have a3 := w (x[0].toNat + 256 * x[1].toNat + 65536 * x[2].toNat + 16777216 * x[3].toNat) (by omega)
      simp only [Int.natCast_add, Int.natCast_mul, Int.cast_ofNat_Int] at w1 w2 w3 a1 a2 a3
      simp only [canon_ptr, canon_int, e.1, bind_some', retOr_ret, BL_len, bin_lss, hl] at step
      rw [show decide ((((4 : Nat) : Int) < 4)) = false from rfl, condV_false] at step
      simp only [i0, i1, i2, i3, bind_some', ldCell_rptr, byteRow_0, cv_u32, bin_mul, bin_add, w1, w2, w3, a1, a2, a3, copy_int] at step
      have ew : ((wdN x : Nat) : Int) = (x[0].toNat : Int) + (256 : Int) * (x[1].toNat : Int) + (65536 : Int) * (x[2].toNat : Int) + (16777216 : Int) * (x[3].toNat : Int) := by
        unfold wdN
        rw [List.getD_eq_getElem?_getD, List.getD_eq_getElem?_getD, List.getD_eq_getElem?_getD, List.getD_eq_getElem?_getD, List.getElem?_eq_getElem (by omega), List.getElem?_eq_getElem (by omega), List.getElem?_eq_getElem (by omega), List.getElem?_eq_getElem (by omega)]
        simp only [Option.getD_some]
        omega
      rw [← ew] at step
      exact ⟨h', step rfl rfl, k, o, e.2⟩
  · rw [if_pos he] at e ⊢
    simp only [canon_ptr, canon_int, e.1, bind_some', retOr_ret, BL_len, bin_lss] at step
    rw [show decide (((([] : List UInt8).length : Nat) : Int) < 4) = true from rfl, condV_true] at step
    exact ⟨h', step rfl rfl, k, o, e.2⟩
theorem dCountC_den {h : H} {id m : Nat} {r : Rd} {o : Own} (hr : RdC h id r o) (hk : r.ok) (hm : m ≤ 2 ^ 40) : ∃ h', D n_warrantorref02_Reader_Count [.ptr id 0, .int .i64 m] h = some (.ret (.int .i64 (rdN m r).1), h') ∧ Keep [id] h h' ∧ RdC h' id (rdN m r).2 o := by
  have f := lebG_facts (r.b.drop r.p)
  rw [List.length_drop] at f
  obtain ⟨h', e, k, r'⟩ := dU_den hr hk
  have step : ∀ {v : AV} {h' : H}, warrantorref02_Reader_Count.f (warrantorref02_Reader_Count.JD 1) (.ptr id 0) (.int .i64 m) h = some (.ret v, h') → retOk Tryz.f71 (.ret v) = true → D n_warrantorref02_Reader_Count [.ptr id 0, .int .i64 m] h = some (.ret v, h') := fun {v h'} e hx => warrantorref02_Reader_Count.den 1 e hx
  rw [warrantorref02_Reader_Count.f_eq (warrantorref02_Reader_Count.fx 1)] at step
  simp only [nilOk_ptr, fAddr_ptr, bind_some', ld_at hr, cell1, canon_ptr, e, retOr_ret, ld_at r', cell2, bin_neq] at step
  unfold rdU at r' step
  unfold rdN
  by_cases he : r.e = 0
  · rw [if_neg (by omega)] at r' step ⊢
    by_cases hl : (lebG (r.b.drop r.p)).2.2 = 0
    · rw [if_neg (by omega)] at r' ⊢
      rw [if_neg (by omega)] at step
      simp only [decide_eq_false (show ¬ ((r.e : Int) ≠ 0) by omega), condV_false, bin_lss, bind_some', decide_eq_false (show ¬ ((m : Int) < 0) by omega), cvInt_int, wrap_u64 (show (0 : Int) ≤ (m : Int) by omega) (show (m : Int) ≤ 18446744073709551615 by omega), bin_gtr] at step
      rw [warrantorref02_Reader_Count.j0_eq (warrantorref02_Reader_Count.fx 1)] at step
      by_cases hx : m < (lebG (r.b.drop r.p)).1
      · rw [if_pos hx]
        have r2 := get_set (y := .arr (({ r with p := r.p } : Rd).cells o) false) r'
        have ef := dFail_den (r := r) (e := 3) r2 (by decide)
        rw [if_pos he, show (((3 : Nat) : Int)) = 3 from rfl] at ef
        simp only [decide_eq_true (show (((lebG (r.b.drop r.p)).1 : Int) > (m : Int)) by omega), condV_true, nilOk_ptr, fAddr_ptr, bind_some', copy_int, st_p r', canon_ptr, canon_int, ef, retOr_ret] at step
        exact ⟨_, step rfl rfl, k.trans ((Keep.set (by simp)).trans (.set (by simp))), get_set r2⟩
      · rw [if_neg hx]
        simp only [decide_eq_false (show ¬ (((lebG (r.b.drop r.p)).1 : Int) > (m : Int)) by omega), condV_false, cvInt_int, bind_some'] at step
        rw [wrap_i64 (by omega) (by omega)] at step
        exact ⟨_, step rfl rfl, k, r'⟩
    · rw [if_pos hl] at r' step ⊢
      simp only [decide_eq_true (show (((lebG (r.b.drop r.p)).2.2 : Int) ≠ 0) by omega), condV_true] at step
      exact ⟨_, step rfl rfl, k, r'⟩
  · rw [if_pos he] at r' step ⊢
    simp only [decide_eq_true (show ((r.e : Int) ≠ 0) by omega), condV_true] at step
    exact ⟨_, step rfl rfl, k, r'⟩
theorem dCount_den {h : H} {id m : Nat} {r : Rd} (hr : RdAt h id r) (hk : r.ok) (hm : m ≤ 2 ^ 40) : ∃ h', D n_warrantorref02_Reader_Count [.ptr id 0, .int .i64 m] h = some (.ret (.int .i64 (rdN m r).1), h') ∧ Keep [id] h h' ∧ RdAt h' id (rdN m r).2 := by
  obtain ⟨o, hr⟩ := hr
  obtain ⟨h', e, k, r'⟩ := dCountC_den hr hk hm
  exact ⟨h', e, k, o, r'⟩
theorem dText_den {h : H} {id m : Nat} {r : Rd} (hr : RdAt h id r) (hk : r.ok) (hm : m ≤ 2 ^ 40) : ∃ h', D n_warrantorref02_Reader_Text [.ptr id 0, .int .i64 m] h = some (.ret (.str (rdT m r).1), h') ∧ Keep [id] h h' ∧ RdAt h' id (rdT m r).2 := by
  obtain ⟨o, hr⟩ := hr
  have f := lebG_facts (r.b.drop r.p)
  rw [List.length_drop] at f
  have ok' := (rdN_ok (m := m) hk).1
  have h32 := hk.2.1
  obtain ⟨h', e, k, r'⟩ := dCountC_den hr hk hm
  have step : ∀ {v : AV} {h' : H}, warrantorref02_Reader_Text.f (warrantorref02_Reader_Text.JD 1) (.ptr id 0) (.int .i64 m) h = some (.ret v, h') → retOk Tryz.f115 (.ret v) = true → D n_warrantorref02_Reader_Text [.ptr id 0, .int .i64 m] h = some (.ret v, h') := fun {v h'} e hx => warrantorref02_Reader_Text.den 1 e hx
  rw [warrantorref02_Reader_Text.f_eq (warrantorref02_Reader_Text.fx 1)] at step
  simp only [nilOk_ptr, fAddr_ptr, bind_some', ld_at hr, cell1, canon_ptr, canon_int, e, retOr_ret, ld_at r', cell0, cell1, cell2, bin_neq, BL_len, bin_sub, bin_gtr] at step
  unfold rdN at r' step ok'
  unfold rdT
  by_cases he : r.e = 0
  · rw [if_neg (by omega)] at r' ok' ⊢
    simp only [if_neg (show ¬ (r.e ≠ 0) by omega)] at step
    by_cases hl : (lebG (r.b.drop r.p)).2.2 = 0
    · rw [if_neg (by omega)] at r' ok' ⊢
      simp only [if_neg (show ¬ ((lebG (r.b.drop r.p)).2.2 ≠ 0) by omega)] at step
      by_cases hx : m < (lebG (r.b.drop r.p)).1
      · rw [if_pos hx] at r' ⊢
        simp only [if_pos hx] at step
        rw [show decide (((3 : Nat) : Int) ≠ 0) = true from rfl, condV_true] at step
        exact ⟨_, step rfl rfl, k, o, r'⟩
      · rw [if_neg hx] at r' ok' ⊢
        simp only [if_neg hx, decide_eq_false (show ¬ ((r.e : Int) ≠ 0) by omega), condV_false] at step
        rw [wrap_i64 (by omega) (by omega)] at step
        by_cases hy : r.b.length - (r.p + (lebG (r.b.drop r.p)).2.1) < (lebG (r.b.drop r.p)).1
        · rw [if_pos hy]
          have r2 := get_set (y := .arr (({ r with p := r.p } : Rd).cells o) false) r'
          have ef := dFail_den (r := r) (e := 10) r2 (by decide)
          rw [if_pos he, show (((10 : Nat) : Int)) = 10 from rfl] at ef
          simp only [decide_eq_true (show (((lebG (r.b.drop r.p)).1 : Int) > (r.b.length : Int) - ((r.p + (lebG (r.b.drop r.p)).2.1 : Nat) : Int)) by omega), condV_true, nilOk_ptr, fAddr_ptr, bind_some', copy_int, st_p r', canon_ptr, canon_int, ef, retOr_ret] at step
          exact ⟨_, step rfl rfl, k.trans ((Keep.set (by simp)).trans (.set (by simp))), o, get_set r2⟩
        · rw [if_neg hy]
          obtain ⟨h2, k2, e2⟩ := dTake_den (n := (lebG (r.b.drop r.p)).1) r' ok' (by omega)
          rw [if_neg (show ¬ (r.e ≠ 0) by omega), if_neg hy] at e2
          simp only [decide_eq_false (show ¬ (((lebG (r.b.drop r.p)).1 : Int) > (r.b.length : Int) - ((r.p + (lebG (r.b.drop r.p)).2.1 : Nat) : Int)) by omega), condV_false, canon_ptr, canon_int, e2.1, bind_some', retOr_ret, BL_toStr] at step
          exact ⟨_, step rfl rfl, k.trans k2, o, e2.2⟩
    · rw [if_pos hl] at r' ⊢
      simp only [if_pos hl, decide_eq_true (show (((lebG (r.b.drop r.p)).2.2 : Int) ≠ 0) by omega), condV_true] at step
      exact ⟨_, step rfl rfl, k, o, r'⟩
  · rw [if_pos he] at r' ⊢
    simp only [if_pos he, decide_eq_true (show ((r.e : Int) ≠ 0) by omega), condV_true] at step
    exact ⟨_, step rfl rfl, k, o, r'⟩
theorem dEnd_den {h : H} {id : Nat} {r : Rd} (hr : RdAt h id r) : ∃ h', D n_warrantorref02_Reader_End [.ptr id 0] h = some (.ret (.tuple []), h') ∧ Keep [id] h h' ∧ RdAt h' id (rdE r) := by
  obtain ⟨o, hr⟩ := hr
  have step : ∀ {v : AV} {h' : H}, warrantorref02_Reader_End.f (warrantorref02_Reader_End.JD 1) (.ptr id 0) h = some (.ret v, h') → retOk Tryz.f73 (.ret v) = true → D n_warrantorref02_Reader_End [.ptr id 0] h = some (.ret v, h') := fun {v h'} e hx => warrantorref02_Reader_End.den 1 e hx
  rw [warrantorref02_Reader_End.f_eq (warrantorref02_Reader_End.fx 1)] at step
  have j : ∀ b, warrantorref02_Reader_End.j0 (warrantorref02_Reader_End.JD 1) (.ptr id 0) (.bool b) h = some (.ret (.tuple []), if b then h.set id (.arr ({ r with e := 3 }.cells o) false) else h) := by
    intro b
    rw [warrantorref02_Reader_End.j0_eq (warrantorref02_Reader_End.fx 1)]
    cases b with
    | true =>
      have e3 := st_e hr 3
      rw [show (((3 : Nat) : Int)) = 3 from rfl] at e3
      simp only [condV_true, nilOk_ptr, fAddr_ptr, bind_some', e3, if_true]
    | false => simp only [condV_false]; rfl
  simp only [nilOk_ptr, fAddr_ptr, bind_some', ld_at hr, cell0, cell1, cell2, BL_len, bin_eql, bin_lss, j] at step
  unfold rdE
  by_cases he : r.e = 0
  · simp only [decide_eq_true (show ((r.e : Int) = 0) by omega), condV_true] at step
    by_cases hx : r.p < r.b.length
    · rw [if_pos ⟨he, hx⟩]
      simp only [decide_eq_true (show ((r.p : Int) < (r.b.length : Int)) by omega), if_true] at step
      exact ⟨_, step rfl rfl, .set (by simp), o, get_set hr⟩
    · rw [if_neg (fun h => hx h.2)]
      simp only [decide_eq_false (show ¬ ((r.p : Int) < (r.b.length : Int)) by omega)] at step
      exact ⟨_, step rfl rfl, .refl _ _, o, hr⟩
  · rw [if_neg (fun h => he h.1)]
    simp only [decide_eq_false (show ¬ ((r.e : Int) = 0) by omega), condV_false] at step
    exact ⟨_, step rfl rfl, .refl _ _, o, hr⟩
end Go.Proofs.YtdlnkfghgbddhaaGreat
