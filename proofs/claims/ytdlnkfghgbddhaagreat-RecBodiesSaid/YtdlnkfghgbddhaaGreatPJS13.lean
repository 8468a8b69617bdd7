/- What the functions of the records' layer come to: 13: texts, as the program looks at them. -/
import Derived.Test.YtdlnkfghgbddhaaGreatPJS12
set_option linter.all false

open Go Go.Ve Go.Proofs
namespace Go.Proofs.YtdlnkfghgbddhaaGreat
set_option maxRecDepth 100000
set_option linter.all false

theorem str_get (l : List UInt8) (i : Nat) (hi : i < l.length) : ((⟨l.toArray⟩ : ByteArray)[i]'(by simpa [ByteArray.size] using hi)) = l[i] := by
  simp [ByteArray.getElem_eq_getElem_data]
theorem next_end {s : List UInt8} {i : Nat} (hi : s.length ≤ i) : next [.siter s i] (.ptr 0 0) true = some (.tuple [.bool false], [.siter s i]) := by
  have : ¬ i < s.length := by omega
  simp [next, this]
theorem next_low {s : List UInt8} {i : Nat} (hi : i < s.length) (hb : s[i].toNat < 128) : next [.siter s i] (.ptr 0 0) true = some (.tuple [.bool true, .int .i64 i, .int .i32 (s[i].toNat : Int)], [.siter s (i + 1)]) := by
  have hsz : i < (⟨s.toArray⟩ : ByteArray).size := by simpa [ByteArray.size] using hi
  have hdec : Utf8.decode ⟨s.toArray⟩ i = ((s[i]).toNat, 1) := by
    rw [decode_ascii _ _ hsz (by rw [str_get s i hi]; exact hb), str_get s i hi]
  simp [next, hi, hdec]
theorem next_high {s : List UInt8} {i : Nat} (hi : i < s.length) (hb : 128 ≤ s[i].toNat) : ∃ c w : Nat, 128 ≤ c ∧ next [.siter s i] (.ptr 0 0) true = some (.tuple [.bool true, .int .i64 i, .int .i32 (c : Int)], [.siter s (i + w)]) := by
  have hsz : i < (⟨s.toArray⟩ : ByteArray).size := by simpa [ByteArray.size] using hi
  have hdec := decode_high ⟨s.toArray⟩ i hsz (by rw [str_get s i hi]; omega)
  exact ⟨(Utf8.decode ⟨s.toArray⟩ i).1, (Utf8.decode ⟨s.toArray⟩ i).2, by omega, by simp [next, hi]⟩

/-- A text has a rune of some kind, none of which is a byte above 127. -/
theorem indexFunc_loop {J : Jn (AEnd × H)} {k : Nat} (hJ : strings_indexFunc.F D k J) (fv : AV) (odd : Nat → Bool) (hf : ∀ (n : Nat) (h : H), callVal D h fv [.int .i32 (n : Int)] = some (.ret (.bool (odd n)), h)) (ho : ∀ n, 128 ≤ n → odd n = true) (s : List UInt8) : ∀ (d i m : Nat), i + d = s.length → d < m →
    ∃ r h', strings_indexFunc.l0 J m fv (.bool true) (.ptr 0 0) [.siter s i] = some (.ret (.int .i64 r), h') ∧ (0 ≤ r ↔ (s.drop i).any (fun b => odd b.toNat) = true)
  | 0, i, m + 1, hi, _ => by
    rw [strings_indexFunc.l0_eq hJ]
    have e := next_end (s := s) (i := i) (by omega)
    refine ⟨-1, [.siter s i], ?_, by simp [List.drop_of_length_le (show s.length ≤ i by omega)]⟩
    rw [e]
    rfl
  | d + 1, i, m + 1, hi, hm => by
    rw [strings_indexFunc.l0_eq hJ]
    have hil : i < s.length := by omega
    rw [List.drop_eq_getElem_cons hil, List.any_cons]
    by_cases hb : s[i].toNat < 128
    · rw [next_low hil hb]
      simp only [bind_some', exTuple_eq]
      rw [show ([AV.bool true, .int .i64 (i : Int), .int .i32 (s[i].toNat : Int)])[0]? = some (.bool true) from rfl, show ([AV.bool true, .int .i64 (i : Int), .int .i32 (s[i].toNat : Int)])[1]? = some (.int .i64 (i : Int)) from rfl, show ([AV.bool true, .int .i64 (i : Int), .int .i32 (s[i].toNat : Int)])[2]? = some (.int .i32 (s[i].toNat : Int)) from rfl]
      simp only [bind_some', condV_true, canon_int, hf, retOr_ret, binBool_eql, copy_int]
      cases hx : odd s[i].toNat with
      | true => exact ⟨i, _, rfl, by simp⟩
      | false =>
        obtain ⟨r, h', hr, hiff⟩ := indexFunc_loop hJ fv odd hf ho s d (i + 1) m (by omega) (by omega)
        refine ⟨r, h', ?_, by simpa using hiff⟩
        simp only [condV_false, show (false == true) = false from rfl]
        exact hr
    · obtain ⟨c, w, hc, e⟩ := next_high hil (by omega)
      rw [e]
      simp only [bind_some', exTuple_eq]
      rw [show ([AV.bool true, .int .i64 (i : Int), .int .i32 (c : Int)])[0]? = some (.bool true) from rfl, show ([AV.bool true, .int .i64 (i : Int), .int .i32 (c : Int)])[1]? = some (.int .i64 (i : Int)) from rfl, show ([AV.bool true, .int .i64 (i : Int), .int .i32 (c : Int)])[2]? = some (.int .i32 (c : Int)) from rfl]
      simp only [bind_some', condV_true, canon_int, hf, retOr_ret, binBool_eql, copy_int, ho c hc, ho s[i].toNat (by omega)]
      exact ⟨i, _, rfl, by simp⟩
theorem contains_den (f : Nat) (odd : Nat → Bool) (hf : ∀ (n : Nat) (h : H), callVal D h (.func (.func f) [] []) [.int .i32 (n : Int)] = some (.ret (.bool (odd n)), h)) (ho : ∀ n, 128 ≤ n → odd n = true) (s : List UInt8) (h : H) : D n_strings_ContainsFunc [.str s, .func (.func f) [] []] h = some (.ret (.bool (s.any fun b => odd b.toNat)), h) := by
  obtain ⟨r, h', hr, hiff⟩ := indexFunc_loop (strings_indexFunc.fx (s.length + 1)) (.func (.func f) [] []) odd hf ho s s.length 0 (s.length + 1) (by omega) (by omega)
  have d1 : ∀ h, D n_strings_indexFunc [.str s, .func (.func f) [] [], .bool true] h = some (.ret (.int .i64 r), h) := by
    intro h
    refine strings_indexFunc.den (s.length + 1) rfl (h' := h') ?_ rfl rfl
    rw [strings_indexFunc.f_eq (strings_indexFunc.fx _)]
    simp only [rgStr, List.length_nil, List.nil_append, bind_some', hr]
  have d2 : ∀ h, D n_strings_IndexFunc [.str s, .func (.func f) [] []] h = some (.ret (.int .i64 r), h) := by
    intro h
    refine strings_IndexFunc.den 0 rfl (h' := []) ?_ rfl rfl
    rw [strings_IndexFunc.f_eq (strings_IndexFunc.fx _)]
    simp only [canon_str, canon_func, canon_bool, d1, bind_some', retOr_ret]
  refine strings_ContainsFunc.den 0 rfl (h' := []) ?_ rfl rfl
  rw [strings_ContainsFunc.f_eq (strings_ContainsFunc.fx _)]
  simp only [canon_str, canon_func, d2, bind_some', retOr_ret, bin_geq, copy_bool]
  simp only [List.drop_zero] at hiff
  have : decide (r ≥ 0) = s.any fun b => odd b.toNat := by
    rw [Bool.eq_iff_iff, decide_eq_true_iff]; exact hiff
  rw [this]
def oddN (n : Nat) : Bool := decide (n < 32) || decide (126 < n)
theorem oddN_eq : (fun b : UInt8 => oddN b.toNat) = oddB := rfl
theorem oddN_high (n : Nat) (h : 128 ≤ n) : oddN n = true := by simp [oddN]; omega
theorem oddE_den (n : Nat) (h : H) : callVal D h (.func (.func n_alarm_expr_c1) [] []) [.int .i32 (n : Int)] = some (.ret (.bool (oddN n)), h) := by
  refine alarm_expr_c1.den 0 rfl (h' := []) ?_ rfl rfl
  rw [alarm_expr_c1.f_eq (alarm_expr_c1.fx _), show (AV.int .i32 32) = .int .i32 ((32 : Nat) : Int) from rfl, show (AV.int .i32 126) = .int .i32 ((126 : Nat) : Int) from rfl]
  simp only [lssN, gtrN, bind_some', copy_bool, oddN]
  cases decide (n < 32) <;> rfl
theorem oddR_den (n : Nat) (h : H) : callVal D h (.func (.func n_result_note_c1) [] []) [.int .i32 (n : Int)] = some (.ret (.bool (oddN n)), h) := by
  refine result_note_c1.den 0 rfl (h' := []) ?_ rfl rfl
  rw [result_note_c1.f_eq (result_note_c1.fx _), show (AV.int .i32 32) = .int .i32 ((32 : Nat) : Int) from rfl, show (AV.int .i32 126) = .int .i32 ((126 : Nat) : Int) from rfl]
  simp only [lssN, gtrN, bind_some', copy_bool, oddN]
  cases decide (n < 32) <;> rfl
theorem expr_den (s : List UInt8) (h : H) : D n_alarm_expr [.str s] h = some (.ret (.bool (exprS s)), h) := by
  refine alarm_expr.den 0 rfl (h' := []) ?_ rfl rfl
  rw [alarm_expr.f_eq (alarm_expr.fx _), show (AV.int .i64 128) = .int .i64 ((128 : Nat) : Int) from rfl]
  simp only [bin_str, strBin_neq, bind_some', lnStr_str, leqN, canon_str, canon_func, contains_den n_alarm_expr_c1 oddN oddE_den oddN_high, oddN_eq, retOr_ret, not_bool, copy_bool]
  unfold exprS
  cases s with
  | nil => rfl
  | cons a l =>
    rw [show decide ((a :: l : List UInt8) ≠ []) = true by simp, condV_true, show decide (1 ≤ (a :: l).length) = true by simp]
    cases decide ((a :: l).length ≤ 128) <;> rfl
theorem note_den (s : List UInt8) (h : H) : D n_result_note [.str s] h = some (.ret (.bool (noteS s)), h) := by
  refine result_note.den 0 rfl (h' := []) ?_ rfl rfl
  rw [result_note.f_eq (result_note.fx _), show (AV.int .i64 64) = .int .i64 ((64 : Nat) : Int) from rfl]
  simp only [bind_some', lnStr_str, leqN, canon_str, canon_func, contains_den n_result_note_c1 oddN oddR_den oddN_high, oddN_eq, retOr_ret, not_bool, copy_bool]
  unfold noteS
  cases decide (s.length ≤ 64) <;> rfl

theorem pletter_den (n : Nat) (h : H) : D n_prog_letter [.int .i32 (n : Int)] h = some (.ret (.bool (letB n)), h) := by
  refine prog_letter.den 1 rfl (h' := []) ?_ rfl rfl
  rw [prog_letter.f_eq (prog_letter.fx 1)]
  rw [show (AV.int .i32 97) = .int .i32 ((97 : Nat) : Int) from rfl, show (AV.int .i32 122) = .int .i32 ((122 : Nat) : Int) from rfl, show (AV.int .i32 65) = .int .i32 ((65 : Nat) : Int) from rfl, show (AV.int .i32 90) = .int .i32 ((90 : Nat) : Int) from rfl, show (AV.int .i32 95) = .int .i32 ((95 : Nat) : Int) from rfl]
  simp only [geqN, leqN, eqlN, bind_some', copy_bool, letB]
  cases decide (97 ≤ n) <;> cases decide (n ≤ 122) <;> cases decide (65 ≤ n) <;> cases decide (n ≤ 90) <;> rfl
theorem pplain_den (n : Nat) (h : H) : D n_prog_plain [.int .i32 (n : Int)] h = some (.ret (.bool (morB n)), h) := by
  refine prog_plain.den 1 rfl (h' := []) ?_ rfl rfl
  rw [prog_plain.f_eq (prog_plain.fx 1)]
  rw [show (AV.int .i32 48) = .int .i32 ((48 : Nat) : Int) from rfl, show (AV.int .i32 57) = .int .i32 ((57 : Nat) : Int) from rfl, show (AV.int .i32 46) = .int .i32 ((46 : Nat) : Int) from rfl]
  simp only [canon_int, pletter_den, retOr_ret, geqN, leqN, eqlN, bind_some', copy_bool, morB]
  cases letB n <;> cases decide (48 ≤ n) <;> cases decide (n ≤ 57) <;> rfl
theorem ppath_den (n : Nat) (h : H) : D n_prog_path [.int .i32 (n : Int)] h = some (.ret (.bool (patB n)), h) := by
  refine prog_path.den 1 rfl (h' := []) ?_ rfl rfl
  rw [prog_path.f_eq (prog_path.fx 1)]
  rw [show (AV.int .i32 45) = .int .i32 ((45 : Nat) : Int) from rfl, show (AV.int .i32 47) = .int .i32 ((47 : Nat) : Int) from rfl]
  simp only [canon_int, pplain_den, retOr_ret, eqlN, bind_some', copy_bool, patB]
  cases morB n <;> cases decide (n = 45) <;> rfl
theorem letB_high (n : Nat) (h : 128 ≤ n) : letB n = false := by simp [letB]; omega
theorem morB_high (n : Nat) (h : 128 ≤ n) : morB n = false := by simp [morB, letB_high n h]; omega
theorem patB_high (n : Nat) (h : 128 ≤ n) : patB n = false := by simp [patB, morB_high n h]; omega
theorem named_j0 {J : Jn (AEnd × H)} {k : Nat} (hJ : prog_named.F D k J) (s : List UInt8) (most : Nat) (fv : AV) (m : Nat) (b : Bool) (h : H) : prog_named.j0 J m (.str s) (.int .i64 most) fv (.ptr 0 0) (.bool b) h = if b then some (.ret (.bool false), h) else prog_named.l0 J m (.str s) (.int .i64 most) fv (.ptr 0 0) h := by
  rw [prog_named.j0_eq hJ]
  cases b <;> rfl
theorem named_loop {J : Jn (AEnd × H)} {k : Nat} (hJ : prog_named.F D k J) (f most : Nat) (goes : Nat → Bool) (hf : ∀ (n : Nat) (h : H), callVal D h (.func (.func f) [] []) [.int .i32 (n : Int)] = some (.ret (.bool (goes n)), h)) (ho : ∀ n, 128 ≤ n → goes n = false) (s : List UInt8) : ∀ (d i m : Nat), i + d = s.length → d < m → (0 < i ∨ d = 0) →
    ∃ h', prog_named.l0 J m (.str s) (.int .i64 most) (.func (.func f) [] []) (.ptr 0 0) [.siter s i] = some (.ret (.bool ((s.drop i).all (fun b => goes b.toNat) && (decide (0 < s.length) && decide (s.length ≤ most)))), h')
  | 0, i, m + 1, hi, _, _ => by
    rw [prog_named.l0_eq hJ]
    have e := next_end (s := s) (i := i) (by omega)
    refine ⟨[.siter s i], ?_⟩
    rw [e, List.drop_of_length_le (by omega), List.all_nil, Bool.true_and]
    simp only [bind_some', exTuple_eq]
    rw [show ([AV.bool false])[0]? = some (.bool false) from rfl]
    simp only [bind_some', condV_false, bin_str, strBin_neq, lnStr_str, leqN, copy_bool]
    cases s with
    | nil => rfl
    | cons a l =>
      rw [show decide ((a :: l : List UInt8) ≠ []) = true by simp, condV_true, show decide (0 < (a :: l).length) = true by simp, Bool.true_and]
  | d + 1, i, m + 1, hi, hm, h0 => by
    rw [prog_named.l0_eq hJ]
    have hil : i < s.length := by omega
    have hi0 : 0 < i := by omega
    rw [List.drop_eq_getElem_cons hil, List.all_cons]
    by_cases hb : s[i].toNat < 128
    · rw [next_low hil hb, show (AV.int .i64 0) = .int .i64 ((0 : Nat) : Int) from rfl]
      simp only [bind_some', exTuple_eq]
      rw [show ([AV.bool true, .int .i64 (i : Int), .int .i32 (s[i].toNat : Int)])[0]? = some (.bool true) from rfl, show ([AV.bool true, .int .i64 (i : Int), .int .i32 (s[i].toNat : Int)])[1]? = some (.int .i64 (i : Int)) from rfl, show ([AV.bool true, .int .i64 (i : Int), .int .i32 (s[i].toNat : Int)])[2]? = some (.int .i32 (s[i].toNat : Int)) from rfl]
      simp only [bind_some', condV_true, eqlN, decide_eq_false (show ¬ i = 0 by omega), condV_false, canon_int, hf, retOr_ret, not_bool, named_j0 hJ]
      cases hx : goes s[i].toNat with
      | false => exact ⟨_, rfl⟩
      | true =>
        obtain ⟨h', hr⟩ := named_loop hJ f most goes hf ho s d (i + 1) m (by omega) (by omega) (.inl (by omega))
        exact ⟨h', hr⟩
    · obtain ⟨c, w, hc, e⟩ := next_high hil (by omega)
      rw [e, show (AV.int .i64 0) = .int .i64 ((0 : Nat) : Int) from rfl]
      simp only [bind_some', exTuple_eq]
      rw [show ([AV.bool true, .int .i64 (i : Int), .int .i32 (c : Int)])[0]? = some (.bool true) from rfl, show ([AV.bool true, .int .i64 (i : Int), .int .i32 (c : Int)])[1]? = some (.int .i64 (i : Int)) from rfl, show ([AV.bool true, .int .i64 (i : Int), .int .i32 (c : Int)])[2]? = some (.int .i32 (c : Int)) from rfl]
      simp only [bind_some', condV_true, eqlN, decide_eq_false (show ¬ i = 0 by omega), condV_false, canon_int, hf, retOr_ret, not_bool, named_j0 hJ, ho c hc, ho s[i].toNat (by omega)]
      exact ⟨_, rfl⟩
theorem named_den (f most : Nat) (goes : Nat → Bool) (hf : ∀ (n : Nat) (h : H), callVal D h (.func (.func f) [] []) [.int .i32 (n : Int)] = some (.ret (.bool (goes n)), h)) (ho : ∀ n, 128 ≤ n → goes n = false) (s : List UInt8) (h : H) : D n_prog_named [.str s, .int .i64 most, .func (.func f) [] []] h = some (.ret (.bool (namS goes most s)), h) := by
  have hJ := prog_named.fx (s.length + 1)
  have key : ∃ h', prog_named.l0 (prog_named.JD (s.length + 1)) (s.length + 1) (.str s) (.int .i64 most) (.func (.func f) [] []) (.ptr 0 0) [.siter s 0] = some (.ret (.bool (namS goes most s)), h') := by
    unfold namS
    cases s with
    | nil => exact named_loop hJ f most goes hf ho [] 0 0 1 rfl (by decide) (.inr rfl)
    | cons a l =>
      rw [prog_named.l0_eq hJ]
      have hil : 0 < (a :: l).length := by simp
      rw [List.all_cons, show decide (0 < (a :: l).length) = true by simp, Bool.true_and, show (a :: l).getD 0 0 = a from rfl]
      by_cases hb : a.toNat < 128
      · have e := next_low (s := a :: l) hil hb
        rw [e]
        rw [show (a :: l)[0] = a from rfl]
        simp only [bind_some', exTuple_eq]
        rw [show ([AV.bool true, .int .i64 ((0 : Nat) : Int), .int .i32 (a.toNat : Int)])[0]? = some (.bool true) from rfl, show ([AV.bool true, .int .i64 ((0 : Nat) : Int), .int .i32 (a.toNat : Int)])[1]? = some (.int .i64 0) from rfl, show ([AV.bool true, .int .i64 ((0 : Nat) : Int), .int .i32 (a.toNat : Int)])[2]? = some (.int .i32 (a.toNat : Int)) from rfl]
        simp only [bind_some', condV_true, bin_eql, decide_true, canon_int, pletter_den, hf, retOr_ret, not_bool, named_j0 hJ]
        cases letB a.toNat with
        | false =>
          simp only [Bool.not_false, condV_true, if_true, Bool.and_false]
          exact ⟨_, rfl⟩
        | true =>
          simp only [Bool.not_true, condV_false, Bool.and_true]
          cases hx : goes a.toNat with
          | false => exact ⟨_, rfl⟩
          | true =>
            obtain ⟨h', hr⟩ := named_loop hJ f most goes hf ho (a :: l) l.length 1 (l.length + 1) (by simp; omega) (by omega) (.inl (by omega))
            rw [show decide (0 < (a :: l).length) = true by simp, Bool.true_and] at hr
            exact ⟨h', hr⟩
      · obtain ⟨c, w, hc, e⟩ := next_high (s := a :: l) hil (by show 128 ≤ a.toNat; omega)
        rw [e]
        simp only [bind_some', exTuple_eq]
        rw [show ([AV.bool true, .int .i64 ((0 : Nat) : Int), .int .i32 (c : Int)])[0]? = some (.bool true) from rfl, show ([AV.bool true, .int .i64 ((0 : Nat) : Int), .int .i32 (c : Int)])[1]? = some (.int .i64 0) from rfl, show ([AV.bool true, .int .i64 ((0 : Nat) : Int), .int .i32 (c : Int)])[2]? = some (.int .i32 (c : Int)) from rfl]
        simp only [bind_some', condV_true, bin_eql, decide_true, canon_int, pletter_den, hf, retOr_ret, not_bool, named_j0 hJ, letB_high c hc, letB_high a.toNat (by omega)]
        simp only [Bool.not_false, condV_true, if_true, Bool.and_false]
        exact ⟨_, rfl⟩
  obtain ⟨h', hr⟩ := key
  refine prog_named.den (s.length + 1) rfl (h' := h') ?_ rfl rfl
  rw [prog_named.f_eq hJ]
  simp only [rgStr, List.length_nil, List.nil_append, bind_some', hr]
theorem pname_den (s : List UInt8) (h : H) : D n_prog_name [.str s] h = some (.ret (.bool (namS morB 32 s)), h) := by
  refine prog_name.den 0 rfl (h' := []) ?_ rfl rfl
  rw [prog_name.f_eq (prog_name.fx _)]
  have := named_den n_prog_plain 32 morB (fun (n : Nat) h => pplain_den n h) morB_high s []
  rw [show (((32 : Nat) : Int)) = 32 from rfl] at this
  simp only [canon_str, canon_int, canon_func, this, bind_some', retOr_ret]
theorem pfile_den (s : List UInt8) (h : H) : D n_prog_named [.str s, .int .i64 64, .func (.func n_prog_path) [] []] h = some (.ret (.bool (namS patB 64 s)), h) :=
  named_den n_prog_path 64 patB (fun (n : Nat) h => ppath_den n h) patB_high s h
end Go.Proofs.YtdlnkfghgbddhaaGreat
