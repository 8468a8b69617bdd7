/- What the functions of the records' layer come to: 6: a reader of bytes. -/
import Derived.Test.YtdlnkfghgbddhaaGreatPJS5
set_option linter.all false

open Go Go.Ve Go.Proofs
namespace Go.Proofs.YtdlnkfghgbddhaaGreat
set_option maxRecDepth 100000
set_option linter.all false

theorem cv_u32 (b : UInt8) : cvInt .u32 (bv b) = some (.int .u32 (b.toNat : Int)) := by
  have e := wrap_32 (BitVec.ofNat 32 b.toNat)
  have := b.toNat_lt
  rw [BitVec.toNat_ofNat, Nat.mod_eq_of_lt (by omega)] at e
  rw [cvInt_int, e]
abbrev brk (e : Nat) : AV := .iface t_cur_broken (.agg [.int .i64 e])
abbrev RdC (h : H) (id : Nat) (r : Rd) (o : Own) : Prop := h[id]? = some (.arr (r.cells o) false)
theorem cell0 (r : Rd) (o : Own) : (r.cells o)[0 + 0]? = some (BL r.b o) := rfl
theorem cell1 (r : Rd) (o : Own) : (r.cells o)[0 + 1]? = some (.int .i64 r.p) := rfl
theorem cell2 (r : Rd) (o : Own) : (r.cells o)[0 + 2]? = some (.int .i64 r.e) := rfl
theorem st_p {h : H} {id : Nat} {r : Rd} {o : Own} (hr : RdC h id r o) (p : Nat) : stN 1 h (.ptr id (0 + 1)) (.int .i64 p) = some (.undef, h.set id (.arr ({ r with p := p }.cells o) false)) := st_int (off := 1) hr (by simp [Rd.cells])
theorem st_e {h : H} {id : Nat} {r : Rd} {o : Own} (hr : RdC h id r o) (e : Nat) : stN 1 h (.ptr id (0 + 2)) (.int .i64 e) = some (.undef, h.set id (.arr ({ r with e := e }.cells o) false)) := st_int (off := 2) hr (by simp [Rd.cells])
theorem canon_func' {f : Fn} {id : Nat} : AV.canon (.func f [] [AV.copy (.ptr id 0)]) = .func f [] [.ptr id 0] := rfl

theorem number_den {h : H} {id : Nat} {r : Rd} {o : Own} (hr : RdC h id r o) (hk : r.ok) :
    D n_cur_Reader_number [.ptr id 0] h = if (lebG (r.b.drop r.p)).2.2 = 0 then some (.ret (.int .u64 (lebG (r.b.drop r.p)).1), h.set id (.arr ({ r with p := r.p + (lebG (r.b.drop r.p)).2.1 }.cells o) false)) else some (.pan (brk (lebG (r.b.drop r.p)).2.2), h) := by
  obtain ⟨h1, h2, h3⟩ := hk
  have f := lebG_facts (r.b.drop r.p)
  rw [List.length_drop] at f
  have step : ∀ {x : AEnd × H}, cur_Reader_number.f (cur_Reader_number.JD 1) (.ptr id 0) h = some x → retOk Tryz.f146 x.1 = true → D n_cur_Reader_number [.ptr id 0] h = some x := fun {x} e hx => cur_Reader_number.den 1 (r := x.1) (h' := x.2) e hx
  have e0 : cur_Reader_number.f (cur_Reader_number.JD 1) (.ptr id 0) h = if (lebG (r.b.drop r.p)).2.2 = 0 then some (.ret (.int .u64 (lebG (r.b.drop r.p)).1), h.set id (.arr ({ r with p := r.p + (lebG (r.b.drop r.p)).2.1 }.cells o) false)) else some (.pan (brk (lebG (r.b.drop r.p)).2.2), h) := by
    rw [cur_Reader_number.f_eq (cur_Reader_number.fx 1)]
    simp only [nilOk_ptr, fAddr_ptr, bind_some', ld_at hr, cell0, cell1, BL_from h1, BL_canon, leb_Get_den (r.b.drop r.p) (by rw [List.length_drop]; omega) h, retOr_ret, exTuple_eq]
    rw [show ([AV.int .u64 ((lebG (r.b.drop r.p)).1 : Int), .int .i64 ((lebG (r.b.drop r.p)).2.1 : Int), .int .i64 ((lebG (r.b.drop r.p)).2.2 : Int)])[0]? = some (.int .u64 ((lebG (r.b.drop r.p)).1 : Int)) from rfl, show ([AV.int .u64 ((lebG (r.b.drop r.p)).1 : Int), .int .i64 ((lebG (r.b.drop r.p)).2.1 : Int), .int .i64 ((lebG (r.b.drop r.p)).2.2 : Int)])[1]? = some (.int .i64 ((lebG (r.b.drop r.p)).2.1 : Int)) from rfl, show ([AV.int .u64 ((lebG (r.b.drop r.p)).1 : Int), .int .i64 ((lebG (r.b.drop r.p)).2.1 : Int), .int .i64 ((lebG (r.b.drop r.p)).2.2 : Int)])[2]? = some (.int .i64 ((lebG (r.b.drop r.p)).2.2 : Int)) from rfl]
    simp only [bind_some', bin_neq]
    by_cases he : (lebG (r.b.drop r.p)).2.2 = 0
    · rw [if_pos he]
      simp only [decide_eq_false (show ¬ (((lebG (r.b.drop r.p)).2.2 : Int) ≠ 0) by omega), condV_false]
      rw [cur_Reader_number.j0_eq (cur_Reader_number.fx 1)]
      simp only [nilOk_ptr, fAddr_ptr, bind_some', ld_at hr, cell1, bin_add, copy_int]
      rw [wrap_i64 (by omega) (by omega), show ((r.p : Int) + ((lebG (r.b.drop r.p)).2.1 : Int)) = ((r.p + (lebG (r.b.drop r.p)).2.1 : Nat) : Int) from rfl, st_p hr]
      rfl
    · rw [if_neg he]
      simp only [decide_eq_true (show (((lebG (r.b.drop r.p)).2.2 : Int) ≠ 0) by omega), condV_true]
      rfl
  by_cases he : (lebG (r.b.drop r.p)).2.2 = 0
  · rw [if_pos he] at e0 ⊢; exact step e0 rfl
  · rw [if_neg he] at e0 ⊢; exact step e0 rfl
theorem take_den {h : H} {id n : Nat} {r : Rd} {o : Own} (hr : RdC h id r o) (hk : r.ok) (hn : n ≤ 2 ^ 40) :
    D n_cur_Reader_take [.ptr id 0, .int .i64 n] h = if r.b.length - r.p < n then some (.pan (brk 10), h) else some (.ret (BL ((r.b.drop r.p).take n)), h.set id (.arr ({ r with p := r.p + n }.cells o) false)) := by
  obtain ⟨h1, h2, h3⟩ := hk
  have e0 : cur_Reader_take.f (cur_Reader_take.JD 1) (.ptr id 0) (.int .i64 n) h = if r.b.length - r.p < n then some (.pan (brk 10), h) else some (.ret (BL ((r.b.drop r.p).take n)), h.set id (.arr ({ r with p := r.p + n }.cells o) false)) := by
    rw [cur_Reader_take.f_eq (cur_Reader_take.fx 1)]
    simp only [nilOk_ptr, fAddr_ptr, bind_some', ld_at hr, cell0, cell1, BL_len, bin_sub, bin_gtr]
    rw [wrap_i64 (by omega) (by omega)]
    by_cases he : r.b.length - r.p < n
    · rw [if_pos he]
      simp only [decide_eq_true (show ((n : Int) > (r.b.length : Int) - (r.p : Int)) by omega), condV_true]
      rfl
    · rw [if_neg he]
      simp only [decide_eq_false (show ¬ ((n : Int) > (r.b.length : Int) - (r.p : Int)) by omega), condV_false]
      rw [cur_Reader_take.j0_eq (cur_Reader_take.fx 1)]
      simp only [nilOk_ptr, fAddr_ptr, bind_some', ld_at hr, cell1, bin_add, copy_int]
      rw [wrap_i64 (by omega) (by omega), show ((r.p : Int) + (n : Int)) = ((r.p + n : Nat) : Int) from rfl, st_p hr]
      have hr' : RdC (h.set id (.arr ({ r with p := r.p + n }.cells o) false)) id { r with p := r.p + n } o := get_set hr
      simp only [bind_some', ld_at hr', cell0, cell1, bin_sub]
      rw [show (((r.p + n : Nat) : Int) - (n : Int)) = ((r.p : Nat) : Int) by omega, wrap_i64 (by omega) (by omega), BL_both (by omega) (by omega)]
      rw [List.drop_take, show r.p + n - r.p = n by omega]
      rfl
  by_cases he : r.b.length - r.p < n
  · rw [if_pos he] at e0 ⊢; exact cur_Reader_take.den 1 e0 rfl
  · rw [if_neg he] at e0 ⊢; exact cur_Reader_take.den 1 e0 rfl
theorem upto_den {h : H} {id m : Nat} {r : Rd} {o : Own} (hr : RdC h id r o) (hk : r.ok) (hm : m ≤ 2 ^ 40) :
    ∃ h', Keep [id] h h' ∧ (if (lebG (r.b.drop r.p)).2.2 ≠ 0 then D n_cur_Reader_upto [.ptr id 0, .int .i64 m] h = some (.pan (brk (lebG (r.b.drop r.p)).2.2), h') ∧ RdC h' id r o
      else RdC h' id { r with p := r.p + (lebG (r.b.drop r.p)).2.1 } o ∧ D n_cur_Reader_upto [.ptr id 0, .int .i64 m] h = if m < (lebG (r.b.drop r.p)).1 then some (.pan (brk 3), h') else some (.ret (.int .i64 (lebG (r.b.drop r.p)).1), h')) := by
  have f := lebG_facts (r.b.drop r.p)
  have en := number_den hr hk
  by_cases he : (lebG (r.b.drop r.p)).2.2 = 0
  · rw [if_pos he] at en
    refine ⟨h.set id (.arr ({ r with p := r.p + (lebG (r.b.drop r.p)).2.1 }.cells o) false), .set (by simp), ?_⟩
    rw [if_neg (by omega)]
    refine ⟨get_set hr, ?_⟩
    have e0 : cur_Reader_upto.f (cur_Reader_upto.JD 1) (.ptr id 0) (.int .i64 m) h = if m < (lebG (r.b.drop r.p)).1 then some (.pan (brk 3), h.set id (.arr ({ r with p := r.p + (lebG (r.b.drop r.p)).2.1 }.cells o) false)) else some (.ret (.int .i64 (lebG (r.b.drop r.p)).1), h.set id (.arr ({ r with p := r.p + (lebG (r.b.drop r.p)).2.1 }.cells o) false)) := by
      rw [cur_Reader_upto.f_eq (cur_Reader_upto.fx 1)]
      simp only [canon_ptr, en, bind_some', retOr_ret, bin_lss, decide_eq_false (show ¬ ((m : Int) < 0) by omega), condV_false, cvInt_int, wrap_u64 (show (0 : Int) ≤ (m : Int) by omega) (show (m : Int) ≤ 18446744073709551615 by omega), bin_gtr]
      rw [cur_Reader_upto.j0_eq (cur_Reader_upto.fx 1)]
      by_cases hx : m < (lebG (r.b.drop r.p)).1
      · simp only [if_pos hx, decide_eq_true (show (((lebG (r.b.drop r.p)).1 : Int) > (m : Int)) by omega), condV_true]
        rfl
      · simp only [if_neg hx, decide_eq_false (show ¬ (((lebG (r.b.drop r.p)).1 : Int) > (m : Int)) by omega), condV_false, cvInt_int, bind_some']
        rw [wrap_i64 (by omega) (by omega)]
    by_cases hx : m < (lebG (r.b.drop r.p)).1
    · rw [if_pos hx] at e0 ⊢; exact cur_Reader_upto.den 1 e0 rfl
    · rw [if_neg hx] at e0 ⊢; exact cur_Reader_upto.den 1 e0 rfl
  · rw [if_neg he] at en
    refine ⟨h, .refl _ _, ?_⟩
    rw [if_pos he]
    refine ⟨cur_Reader_upto.den 1 ?_ rfl, hr⟩
    rw [cur_Reader_upto.f_eq (cur_Reader_upto.fx 1)]
    simp only [canon_ptr, en, bind_some', retOr_pan]

/-- A word out of four bytes. -/
theorem word_step {J : Jn (AEnd × H)} {k : Nat} (hJ : cur_Reader_word.F D k J) (h : H) (l : List UInt8) (m i n : Nat) (hi : i < l.length) (h4 : l.length = 4) (hn : n < 2 ^ (8 * i)) :
    cur_Reader_word.l0 J (m + 1) (.int .u32 n) (BL l) (.int .i64 4) (.int .i64 i) h = cur_Reader_word.l0 J m (.int .u32 ((n + 2 ^ (8 * i) * l[i].toNat : Nat) : Int)) (BL l) (.int .i64 4) (.int .i64 ((i + 1 : Nat) : Int)) h := by
  rw [cur_Reader_word.l0_eq hJ]
  have hb := l[i].toNat_lt
  have hp : l[i].toNat * 2 ^ (8 * i) + n < 2 ^ 32 := by
    have e1 : l[i].toNat * 2 ^ (8 * i) ≤ 255 * 2 ^ (8 * i) := Nat.mul_le_mul_right _ (by omega)
    have e2 : 2 ^ (8 * i) ≤ 2 ^ 24 := Nat.pow_le_pow_right (by decide) (by omega)
    omega
  have c2 : bin .mul (.int .i64 8) (.int .i64 (i : Int)) = some (.int .i64 ((8 * i : Nat) : Int)) := by rw [bin_mul, wrap_i64 (by omega) (by omega)]; rfl
  have c5 : bin .add (.int .i64 (i : Int)) (.int .i64 1) = some (.int .i64 ((i + 1 : Nat) : Int)) := by rw [bin_add, wrap_i64 (by omega) (by omega)]; rfl
  simp only [bin_lss, bind_some', decide_eq_true (show ((i : Int) < 4) by omega), condV_true, BL_at hi, ldCell_rptr, byteRow_0, cv_u32, c2, shl_u32 (a := l[i].toNat) (k := 8 * i) (kk := .i64) (by omega) (by omega), or_add32 hn hp, c5]
theorem word_den {h : H} {id : Nat} {r : Rd} {o : Own} (hr : RdC h id r o) (hk : r.ok) :
    D n_cur_Reader_word [.ptr id 0] h = if r.b.length - r.p < 4 then some (.pan (brk 10), h) else some (.ret (.int .u32 (wdN (r.b.drop r.p))), h.set id (.arr ({ r with p := r.p + 4 }.cells o) false)) := by
  have et := take_den (n := 4) hr hk (by decide)
  rw [show (((4 : Nat) : Int)) = 4 from rfl] at et
  by_cases hx : r.b.length - r.p < 4
  · rw [if_pos hx] at et ⊢
    refine cur_Reader_word.den 10 ?_ rfl
    rw [cur_Reader_word.f_eq (cur_Reader_word.fx 10)]
    simp only [canon_ptr, canon_int, et, bind_some', retOr_pan]
  · rw [if_neg hx] at et ⊢
    refine cur_Reader_word.den 10 ?_ rfl
    have hl : ((r.b.drop r.p).take 4).length = 4 := by simp; omega
    have hw : wdN (r.b.drop r.p) = wdN ((r.b.drop r.p).take 4) := by
      simp [wdN, List.getD_eq_getElem?_getD, List.getElem?_take]
    rw [cur_Reader_word.f_eq (cur_Reader_word.fx 10), hw]
    generalize (r.b.drop r.p).take 4 = x at hl et
    simp only [canon_ptr, canon_int, et, bind_some', retOr_ret, BL_len, hl]
    have hJ := cur_Reader_word.fx 10
    have s0 := word_step hJ (h.set id (.arr ({ r with p := r.p + 4 }.cells o) false)) x 9 0 0 (by omega) hl (by decide)
    rw [show (.int .u32 ((0 : Nat) : Int) : AV) = .int .u32 0 from rfl, show (.int .i64 ((0 : Nat) : Int) : AV) = .int .i64 0 from rfl] at s0
    have b0 := x[0].toNat_lt
    have b1 := x[1].toNat_lt
    have b2 := x[2].toNat_lt
    have b3 := x[3].toNat_lt
    have s1 := word_step hJ (h.set id (.arr ({ r with p := r.p + 4 }.cells o) false)) x 8 1 (0 + 2 ^ (8 * 0) * x[0].toNat) (by omega) hl (by omega)
    have s2 := word_step hJ (h.set id (.arr ({ r with p := r.p + 4 }.cells o) false)) x 7 2 (0 + 2 ^ (8 * 0) * x[0].toNat + 2 ^ (8 * 1) * x[1].toNat) (by omega) hl (by omega)
    have s3 := word_step hJ (h.set id (.arr ({ r with p := r.p + 4 }.cells o) false)) x 6 3 (0 + 2 ^ (8 * 0) * x[0].toNat + 2 ^ (8 * 1) * x[1].toNat + 2 ^ (8 * 2) * x[2].toNat) (by omega) hl (by omega)
    refine s0.trans (s1.trans (s2.trans (s3.trans ?_)))
    rw [cur_Reader_word.l0_eq hJ]
    have e : wdN x = 0 + 2 ^ (8 * 0) * x[0].toNat + 2 ^ (8 * 1) * x[1].toNat + 2 ^ (8 * 2) * x[2].toNat + 2 ^ (8 * 3) * x[3].toNat := by
      unfold wdN
      rw [List.getD_eq_getElem?_getD, List.getD_eq_getElem?_getD, List.getD_eq_getElem?_getD, List.getD_eq_getElem?_getD, List.getElem?_eq_getElem (by omega), List.getElem?_eq_getElem (by omega), List.getElem?_eq_getElem (by omega), List.getElem?_eq_getElem (by omega)]
      simp only [Option.getD_some]
      omega
    rw [e]
    rfl

/-- What a reader's methods answer. -/
theorem cntR_den {h : H} {id m : Nat} {r : Rd} (hr : RdAt h id r) (hk : r.ok) (hm : m ≤ 2 ^ 40) : ∃ h', D n_cur_Reader_Count [.ptr id 0, .int .i64 m] h = some (.ret (.int .i64 (rdN m r).1), h') ∧ Keep [id] h h' ∧ RdAt h' id (rdN m r).2 := by
  have li := hr.lt
  obtain ⟨g, hg⟩ : ∃ g, g = h ++ [AObj.arr [.int .i64 m] false] := ⟨_, rfl⟩
  have kg : Keep [] h g := hg ▸ Keep.app
  have mg : g[h.length]? = some (.arr [.int .i64 m] false) := hg ▸ get_new
  have rg : RdAt g id r := kg.rd hr (by simp)
  have step : ∀ {v : AV} {h' : H}, D n_cur_ask_int [.ptr id 0, .func (.func n_cur_Reader_Count_c1) [] [.ptr h.length 0]] g = some (.ret v, h') → retOk Tryz.f148 (.ret v) = true → D n_cur_Reader_Count [.ptr id 0, .int .i64 m] h = some (.ret v, h') := by
    intro v h' e hv
    refine cur_Reader_Count.den 1 ?_ hv
    rw [cur_Reader_Count.f_eq (cur_Reader_Count.fx 1)]
    rw [copy_int, bx_one (v := .int .i64 m) rfl]
    simp only [bind_some', cells_int, canon_ptr]
    rw [← hg, canon_func', e]
    simp only [bind_some', retOr_ret]
  have inner : ∀ h1 o, Keep [] g h1 → RdC h1 id r o → (∀ {v : AV} {h2 : H}, D n_cur_Reader_upto [.ptr id 0, .int .i64 m] h1 = some (.ret v, h2) → retOk Tryz.f165 (.ret v) = true → callVal D h1 (.func (.func n_cur_Reader_Count_c1) [] [.ptr h.length 0]) [.ptr id 0] = some (.ret v, h2)) ∧ (∀ {v : AV} {h2 : H}, D n_cur_Reader_upto [.ptr id 0, .int .i64 m] h1 = some (.pan v, h2) → retOk Tryz.f165 (.pan v) = true → callVal D h1 (.func (.func n_cur_Reader_Count_c1) [] [.ptr h.length 0]) [.ptr id 0] = some (.pan v, h2)) := by
    intro h1 o k1 r1
    have m1 := k1.get mg (by simp)
    constructor
    · intro v h2 e hv
      refine cur_Reader_Count_c1.den 1 ?_ hv
      rw [cur_Reader_Count_c1.f_eq (cur_Reader_Count_c1.fx 1), ld_at m1, show ([AV.int .i64 (m : Int)])[0]? = some (.int .i64 (m : Int)) from rfl]
      simp only [bind_some', canon_ptr, canon_int, e, retOr_ret]
    · intro v h2 e hv
      refine cur_Reader_Count_c1.den 1 ?_ hv
      rw [cur_Reader_Count_c1.f_eq (cur_Reader_Count_c1.fx 1), ld_at m1, show ([AV.int .i64 (m : Int)])[0]? = some (.int .i64 (m : Int)) from rfl]
      simp only [bind_some', canon_ptr, canon_int, e, retOr_pan]
  unfold rdN
  by_cases he : r.e = 0
  · rw [if_neg (by omega)]
    by_cases hl : (lebG (r.b.drop r.p)).2.2 = 0
    · rw [if_neg (by omega)]
      by_cases hx : m < (lebG (r.b.drop r.p)).1
      · rw [if_pos hx]
        obtain ⟨h', e', k', r'⟩ := cur_ask_int_pan (.func (.func n_cur_Reader_Count_c1) [] [.ptr h.length 0]) 3 rg he fun h1 o k1 r1 => by
          obtain ⟨h2, k2, e2⟩ := upto_den r1 hk hm
          rw [if_neg (by omega), if_pos hx] at e2
          exact ⟨h2, _, (inner h1 o k1 r1).2 e2.2 rfl, k2, o, e2.1⟩
        exact ⟨h', step e' rfl, kg.nil.trans k', r'⟩
      · rw [if_neg hx]
        obtain ⟨h', e', k', r'⟩ := cur_ask_int_ok (r' := { r with p := r.p + (lebG (r.b.drop r.p)).2.1 }) (.func (.func n_cur_Reader_Count_c1) [] [.ptr h.length 0]) (lebG (r.b.drop r.p)).1 rg he fun h1 o k1 r1 => by
          obtain ⟨h2, k2, e2⟩ := upto_den r1 hk hm
          rw [if_neg (by omega), if_neg hx] at e2
          exact ⟨h2, (inner h1 o k1 r1).1 e2.2 rfl, k2, o, e2.1⟩
        exact ⟨h', step e' rfl, kg.nil.trans k', r'⟩
    · rw [if_pos hl]
      obtain ⟨h', e', k', r'⟩ := cur_ask_int_pan (.func (.func n_cur_Reader_Count_c1) [] [.ptr h.length 0]) (lebG (r.b.drop r.p)).2.2 rg he fun h1 o k1 r1 => by
        obtain ⟨h2, k2, e2⟩ := upto_den r1 hk hm
        rw [if_pos hl] at e2
        exact ⟨h2, r.p, (inner h1 o k1 r1).2 e2.1 rfl, k2, o, e2.2⟩
      exact ⟨h', step e' rfl, kg.nil.trans k', r'⟩
  · rw [if_pos he]
    obtain ⟨h', e', k', r'⟩ := cur_ask_int_bad (.func (.func n_cur_Reader_Count_c1) [] [.ptr h.length 0]) rg he
    exact ⟨h', step e' rfl, (kg.trans k').nil, r'⟩
end Go.Proofs.YtdlnkfghgbddhaaGreat
