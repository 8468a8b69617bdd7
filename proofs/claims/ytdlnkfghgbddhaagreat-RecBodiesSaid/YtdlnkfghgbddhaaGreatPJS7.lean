/- What the functions of the records' layer come to: 7: a reader's other methods. -/
import Derived.Test.YtdlnkfghgbddhaaGreatPJS6
set_option linter.all false

open Go Go.Ve Go.Proofs
namespace Go.Proofs.YtdlnkfghgbddhaaGreat
set_option maxRecDepth 100000
set_option linter.all false

theorem wordR_den {h : H} {id : Nat} {r : Rd} (hr : RdAt h id r) (hk : r.ok) : ∃ h', D n_cur_Reader_Word [.ptr id 0] h = some (.ret (.int .u32 (rdW r).1), h') ∧ Keep [id] h h' ∧ RdAt h' id (rdW r).2 := by
  have step : ∀ {v : AV} {h' : H}, D n_cur_ask_uint32 [.ptr id 0, .func (.func n_cur_Reader_word) [] []] h = some (.ret v, h') → retOk Tryz.f63 (.ret v) = true → D n_cur_Reader_Word [.ptr id 0] h = some (.ret v, h') := by
    intro v h' e hv
    refine cur_Reader_Word.den 1 ?_ hv
    rw [cur_Reader_Word.f_eq (cur_Reader_Word.fx 1)]
    simp only [bind_some', canon_ptr, canon_func, e, retOr_ret]
  unfold rdW
  by_cases he : r.e = 0
  · rw [if_neg (by omega)]
    by_cases hx : r.b.length - r.p < 4
    · rw [if_pos hx]
      obtain ⟨h', e', k', r'⟩ := cur_ask_uint32_pan (.func (.func n_cur_Reader_word) [] []) 10 hr he fun h1 o k1 r1 => by
        have e2 := word_den r1 hk
        rw [if_pos hx] at e2
        exact ⟨h1, r.p, e2, .refl _ _, o, r1⟩
      exact ⟨h', step e' rfl, k', r'⟩
    · rw [if_neg hx]
      obtain ⟨h', e', k', r'⟩ := cur_ask_uint32_ok (r' := { r with p := r.p + 4 }) (.func (.func n_cur_Reader_word) [] []) (wdN (r.b.drop r.p)) hr he fun h1 o k1 r1 => by
        have e2 := word_den r1 hk
        rw [if_neg hx] at e2
        exact ⟨_, e2, .set (by simp), o, get_set r1⟩
      exact ⟨h', step e' rfl, k', r'⟩
  · rw [if_pos he]
    obtain ⟨h', e', k', r'⟩ := cur_ask_uint32_bad (.func (.func n_cur_Reader_word) [] []) hr he
    exact ⟨h', step e' rfl, k'.nil, r'⟩
theorem textR_den {h : H} {id m : Nat} {r : Rd} (hr : RdAt h id r) (hk : r.ok) (hm : m ≤ 2 ^ 40) : ∃ h', D n_cur_Reader_Text [.ptr id 0, .int .i64 m] h = some (.ret (.str (rdT m r).1), h') ∧ Keep [id] h h' ∧ RdAt h' id (rdT m r).2 := by
  have li := hr.lt
  have f := lebG_facts (r.b.drop r.p)
  rw [List.length_drop] at f
  obtain ⟨g, hg⟩ : ∃ g, g = h ++ [AObj.arr [.int .i64 m] false] := ⟨_, rfl⟩
  have kg : Keep [] h g := hg ▸ Keep.app
  have mg : g[h.length]? = some (.arr [.int .i64 m] false) := hg ▸ get_new
  have rg : RdAt g id r := kg.rd hr (by simp)
  have step : ∀ {v : AV} {h' : H}, D n_cur_ask_string [.ptr id 0, .func (.func n_cur_Reader_Text_c1) [] [.ptr h.length 0]] g = some (.ret v, h') → retOk Tryz.f61 (.ret v) = true → D n_cur_Reader_Text [.ptr id 0, .int .i64 m] h = some (.ret v, h') := by
    intro v h' e hv
    refine cur_Reader_Text.den 1 ?_ hv
    rw [cur_Reader_Text.f_eq (cur_Reader_Text.fx 1)]
    rw [copy_int, bx_one (v := .int .i64 m) rfl]
    simp only [bind_some', cells_int, canon_ptr]
    rw [← hg, canon_func', e]
    simp only [bind_some', retOr_ret]
  have body : ∀ {h1 : H} {v : AEnd} {h2 : H}, Keep [] g h1 → cur_Reader_Text_c1.f (cur_Reader_Text_c1.JD 1) (.ptr id 0) (.ptr h.length 0) h1 = some (v, h2) → retOk Tryz.f108 v = true → callVal D h1 (.func (.func n_cur_Reader_Text_c1) [] [.ptr h.length 0]) [.ptr id 0] = some (v, h2) := fun {h1 v h2} k1 e hv => cur_Reader_Text_c1.den 1 e hv
  unfold rdT
  by_cases he : r.e = 0
  · rw [if_neg (by omega)]
    by_cases hl : (lebG (r.b.drop r.p)).2.2 = 0
    · rw [if_neg (by omega)]
      by_cases hx : m < (lebG (r.b.drop r.p)).1
      · rw [if_pos hx]
        obtain ⟨h', e', k', r'⟩ := cur_ask_string_pan (.func (.func n_cur_Reader_Text_c1) [] [.ptr h.length 0]) 3 rg he fun h1 o k1 r1 => by
          obtain ⟨h2, k2, e2⟩ := upto_den r1 hk hm
          rw [if_neg (by omega), if_pos hx] at e2
          refine ⟨h2, _, body (v := .pan (brk 3)) k1 ?_ rfl, k2, o, e2.1⟩
          rw [cur_Reader_Text_c1.f_eq (cur_Reader_Text_c1.fx 1), ld_at (k1.get mg (by simp)), show ([AV.int .i64 (m : Int)])[0]? = some (.int .i64 (m : Int)) from rfl]
          simp only [bind_some', canon_ptr, canon_int, e2.2, retOr_pan]
        exact ⟨h', step e' rfl, kg.nil.trans k', r'⟩
      · rw [if_neg hx]
        by_cases hy : r.b.length - (r.p + (lebG (r.b.drop r.p)).2.1) < (lebG (r.b.drop r.p)).1
        · rw [if_pos hy]
          obtain ⟨h', e', k', r'⟩ := cur_ask_string_pan (.func (.func n_cur_Reader_Text_c1) [] [.ptr h.length 0]) 10 rg he fun h1 o k1 r1 => by
            obtain ⟨h2, k2, e2⟩ := upto_den r1 hk hm
            rw [if_neg (by omega), if_neg hx] at e2
            have e3 := take_den (n := (lebG (r.b.drop r.p)).1) e2.1 ⟨by show r.p + _ ≤ r.b.length; omega, hk.2.1, hk.2.2⟩ (by omega)
            rw [if_pos hy] at e3
            refine ⟨h2, _, body (v := .pan (brk 10)) k1 ?_ rfl, k2, o, e2.1⟩
            rw [cur_Reader_Text_c1.f_eq (cur_Reader_Text_c1.fx 1), ld_at (k1.get mg (by simp)), show ([AV.int .i64 (m : Int)])[0]? = some (.int .i64 (m : Int)) from rfl]
            simp only [bind_some', canon_ptr, canon_int, e2.2, retOr_ret, e3, retOr_pan]
          exact ⟨h', step e' rfl, kg.nil.trans k', r'⟩
        · rw [if_neg hy]
          obtain ⟨h', e', k', r'⟩ := cur_ask_string_ok (r' := { r with p := r.p + (lebG (r.b.drop r.p)).2.1 + (lebG (r.b.drop r.p)).1 }) (.func (.func n_cur_Reader_Text_c1) [] [.ptr h.length 0]) ((r.b.drop (r.p + (lebG (r.b.drop r.p)).2.1)).take (lebG (r.b.drop r.p)).1) rg he fun h1 o k1 r1 => by
            obtain ⟨h2, k2, e2⟩ := upto_den r1 hk hm
            rw [if_neg (by omega), if_neg hx] at e2
            have e3 := take_den (n := (lebG (r.b.drop r.p)).1) e2.1 ⟨by show r.p + _ ≤ r.b.length; omega, hk.2.1, hk.2.2⟩ (by omega)
            rw [if_neg hy] at e3
            refine ⟨_, body (v := .ret (.str _)) k1 ?_ rfl, k2.trans (.set (by simp)), o, get_set e2.1⟩
            rw [cur_Reader_Text_c1.f_eq (cur_Reader_Text_c1.fx 1), ld_at (k1.get mg (by simp)), show ([AV.int .i64 (m : Int)])[0]? = some (.int .i64 (m : Int)) from rfl]
            simp only [bind_some', canon_ptr, canon_int, e2.2, retOr_ret, e3, BL_toStr]
          exact ⟨h', step e' rfl, kg.nil.trans k', r'⟩
    · rw [if_pos hl]
      obtain ⟨h', e', k', r'⟩ := cur_ask_string_pan (.func (.func n_cur_Reader_Text_c1) [] [.ptr h.length 0]) (lebG (r.b.drop r.p)).2.2 rg he fun h1 o k1 r1 => by
        obtain ⟨h2, k2, e2⟩ := upto_den r1 hk hm
        rw [if_pos hl] at e2
        refine ⟨h2, r.p, body (v := .pan (brk _)) k1 ?_ rfl, k2, o, e2.2⟩
        rw [cur_Reader_Text_c1.f_eq (cur_Reader_Text_c1.fx 1), ld_at (k1.get mg (by simp)), show ([AV.int .i64 (m : Int)])[0]? = some (.int .i64 (m : Int)) from rfl]
        simp only [bind_some', canon_ptr, canon_int, e2.1, retOr_pan]
      exact ⟨h', step e' rfl, kg.nil.trans k', r'⟩
  · rw [if_pos he]
    obtain ⟨h', e', k', r'⟩ := cur_ask_string_bad (.func (.func n_cur_Reader_Text_c1) [] [.ptr h.length 0]) rg he
    exact ⟨h', step e' rfl, (kg.trans k').nil, r'⟩
theorem atR_den {h : H} {id : Nat} {r : Rd} (hr : RdAt h id r) : D n_cur_Reader_At [.ptr id 0] h = some (.ret (.int .i64 r.p), h) := by
  obtain ⟨o, hr⟩ := hr
  refine cur_Reader_At.den 1 ?_ rfl
  rw [cur_Reader_At.f_eq (cur_Reader_At.fx 1)]
  simp only [ptr_rd, eqv_ff, bind_some', condV_false, nilOk_ptr, fAddr_ptr, ld_at hr, cell1, copy_int]
theorem errR_den {h : H} {id : Nat} {r : Rd} (hr : RdAt h id r) : D n_cur_Reader_Err [.ptr id 0] h = some (.ret (.int .i64 r.e), h) := by
  obtain ⟨o, hr⟩ := hr
  refine cur_Reader_Err.den 1 ?_ rfl
  rw [cur_Reader_Err.f_eq (cur_Reader_Err.fx 1)]
  simp only [ptr_rd, eqv_ff, bind_some', condV_false, nilOk_ptr, fAddr_ptr, ld_at hr, cell2, copy_int]
theorem leftR_den {h : H} {id : Nat} {r : Rd} (hr : RdAt h id r) (hk : r.ok) : D n_cur_Reader_Left [.ptr id 0] h = some (.ret (.int .i64 (if r.e = 0 then r.b.length - r.p else 0 : Nat)), h) := by
  obtain ⟨o, hr⟩ := hr
  have := hk.1
  have := hk.2.1
  refine cur_Reader_Left.den 1 ?_ rfl
  rw [cur_Reader_Left.f_eq (cur_Reader_Left.fx 1)]
  simp only [ptr_rd, eqv_ff, bind_some', condV_false, nilOk_ptr, fAddr_ptr, ld_at hr, cell2, bin_neq]
  rw [cur_Reader_Left.j1_eq (cur_Reader_Left.fx 1)]
  by_cases he : r.e = 0
  · simp only [if_pos he, decide_eq_false (show ¬ ((r.e : Int) ≠ 0) by omega), condV_false]
    rw [cur_Reader_Left.j0_eq (cur_Reader_Left.fx 1)]
    simp only [bind_some', nilOk_ptr, fAddr_ptr, ld_at hr, cell0, cell1, BL_len, bin_sub, copy_int]
    rw [wrap_i64 (by omega) (by omega), show ((r.b.length : Int) - (r.p : Int)) = ((r.b.length - r.p : Nat) : Int) by omega]
  · simp only [if_neg he, decide_eq_true (show ((r.e : Int) ≠ 0) by omega), condV_true]
    rfl
theorem endR_den {h : H} {id : Nat} {r : Rd} (hr : RdAt h id r) (hk : r.ok) : ∃ h', D n_cur_Reader_End [.ptr id 0] h = some (.ret (.tuple []), h') ∧ Keep [id] h h' ∧ RdAt h' id (rdE r) := by
  have el := leftR_den hr hk
  obtain ⟨o, hr⟩ := hr
  unfold rdE
  by_cases hc : r.e = 0 ∧ r.p < r.b.length
  · rw [if_pos hc]
    rw [if_pos hc.1] at el
    have ef : D n_cur_Reader_Fail [.ptr id 0, .int .i64 3] h = some (.ret (.tuple []), h.set id (.arr ({ r with e := 3 }.cells o) false)) := by
      refine cur_Reader_Fail.den 1 ?_ rfl
      rw [cur_Reader_Fail.f_eq (cur_Reader_Fail.fx 1)]
      simp only [bin_eql, bind_some']
      rw [show decide ((3 : Int) = 0) = false from rfl, condV_false, cur_Reader_Fail.j0_eq (cur_Reader_Fail.fx 1)]
      simp only [ptr_rd, eqv_tf, bind_some', condV_true, nilOk_ptr, fAddr_ptr, ld_at hr, cell2, bin_eql, decide_eq_true (show ((r.e : Int) = 0) by omega)]
      rw [cur_Reader_Fail.j1_eq (cur_Reader_Fail.fx 1)]
      have e3 := st_e hr 3
      rw [show (((3 : Nat) : Int)) = 3 from rfl] at e3
      simp only [condV_true, nilOk_ptr, fAddr_ptr, bind_some', copy_int, e3]
    refine ⟨_, cur_Reader_End.den 1 ?_ rfl, .set (by simp), o, get_set hr⟩
    rw [cur_Reader_End.f_eq (cur_Reader_End.fx 1)]
    simp only [canon_ptr, canon_int, el, bind_some', retOr_ret, bin_gtr, decide_eq_true (show ((r.b.length - r.p : Nat) : Int) > 0 by omega), condV_true, ef]
  · rw [if_neg hc]
    refine ⟨h, cur_Reader_End.den 1 ?_ rfl, .refl _ _, o, hr⟩
    rw [cur_Reader_End.f_eq (cur_Reader_End.fx 1)]
    simp only [canon_ptr, canon_int, el, bind_some', retOr_ret, bin_gtr]
    rw [decide_eq_false (by split <;> omega), condV_false]
theorem from_den (h : H) (l : List UInt8) (o : Own) (hl : l.length ≤ 2 ^ 32) : ∃ h', D n_cur_From [BL l o] h = some (.ret (.ptr h.length 0), h') ∧ Keep [] h h' ∧ RdAt h' h.length ⟨l, 0, 0⟩ := by
  refine ⟨_, cur_From.den 1 ?_ rfl, .app, .no, get_new⟩
  rw [cur_From.f_eq (cur_From.fx 1)]
  simp only [BL_canon, clone_byte l .no (by omega), bind_some', retOr_ret, copy_own]
  rw [show mkAgg [.list [] .cap, .int .i64 0, .int .i64 0] [(0, 1, .list (l.map byteRow) .no)] = some (.agg [BL l, .int .i64 0, .int .i64 0]) from rfl]
  simp only [bind_some']
  rw [bx_agg (cs := [BL l, .int .i64 0, .int .i64 0]) rfl]
  rfl
end Go.Proofs.YtdlnkfghgbddhaaGreat
