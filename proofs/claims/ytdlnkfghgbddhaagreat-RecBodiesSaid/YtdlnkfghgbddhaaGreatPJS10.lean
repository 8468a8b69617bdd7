/- What the functions of the records' layer come to: 10: the document's checks. -/
import Derived.Test.YtdlnkfghgbddhaaGreatPJS9
set_option linter.all false

open Go Go.Ve Go.Proofs
namespace Go.Proofs.YtdlnkfghgbddhaaGreat
set_option maxRecDepth 100000
set_option linter.all false

theorem geqN {k : IntKind} (n m : Nat) : bin .geq (.int k (n : Int)) (.int k (m : Int)) = some (.bool (decide (m ≤ n))) := by
  rw [bin_geq]; exact congrArg (fun b => some (AV.bool b)) (decide_eq_decide.2 (by omega))
theorem leqN {k : IntKind} (n m : Nat) : bin .leq (.int k (n : Int)) (.int k (m : Int)) = some (.bool (decide (n ≤ m))) := by
  rw [bin_leq]; exact congrArg (fun b => some (AV.bool b)) (decide_eq_decide.2 (by omega))
theorem eqlN {k : IntKind} (n m : Nat) : bin .eql (.int k (n : Int)) (.int k (m : Int)) = some (.bool (decide (n = m))) := by
  rw [bin_eql]; exact congrArg (fun b => some (AV.bool b)) (decide_eq_decide.2 (by omega))
theorem neqN {k : IntKind} (n m : Nat) : bin .neq (.int k (n : Int)) (.int k (m : Int)) = some (.bool (!decide (n = m))) := by
  rw [bin_neq]; refine congrArg (fun b => some (AV.bool b)) ?_
  rw [← decide_not]; exact decide_eq_decide.2 (by omega)
theorem lssN {k : IntKind} (n m : Nat) : bin .lss (.int k (n : Int)) (.int k (m : Int)) = some (.bool (decide (n < m))) := by
  rw [bin_lss]; exact congrArg (fun b => some (AV.bool b)) (decide_eq_decide.2 (by omega))
theorem gtrN {k : IntKind} (n m : Nat) : bin .gtr (.int k (n : Int)) (.int k (m : Int)) = some (.bool (decide (m < n))) := by
  rw [bin_gtr]; exact congrArg (fun b => some (AV.bool b)) (decide_eq_decide.2 (by omega))
theorem condV_bool {R : Type} (b : Bool) (x y : Option R) : condV (.bool b) x y = bif b then x else y := by cases b <;> rfl

theorem letter_den (b : UInt8) (h : H) : D n_warrantorref11_letter [bv b] h = some (.ret (.bool (letB b.toNat)), h) := by
  refine warrantorref11_letter.den 1 rfl (h' := []) ?_ rfl rfl
  rw [warrantorref11_letter.f_eq (warrantorref11_letter.fx 1)]
  rw [show (AV.int .u8 97) = .int .u8 ((97 : Nat) : Int) from rfl, show (AV.int .u8 122) = .int .u8 ((122 : Nat) : Int) from rfl, show (AV.int .u8 65) = .int .u8 ((65 : Nat) : Int) from rfl, show (AV.int .u8 90) = .int .u8 ((90 : Nat) : Int) from rfl, show (AV.int .u8 95) = .int .u8 ((95 : Nat) : Int) from rfl]
  simp only [geqN, leqN, eqlN, bind_some', copy_bool, letB]
  cases decide (97 ≤ b.toNat) <;> cases decide (b.toNat ≤ 122) <;> cases decide (65 ≤ b.toNat) <;> cases decide (b.toNat ≤ 90) <;> rfl
theorem more_den (b : UInt8) (h : H) : D n_warrantorref11_more [bv b] h = some (.ret (.bool (morB b.toNat)), h) := by
  refine warrantorref11_more.den 1 rfl (h' := []) ?_ rfl rfl
  rw [warrantorref11_more.f_eq (warrantorref11_more.fx 1)]
  rw [show (AV.int .u8 48) = .int .u8 ((48 : Nat) : Int) from rfl, show (AV.int .u8 57) = .int .u8 ((57 : Nat) : Int) from rfl, show (AV.int .u8 46) = .int .u8 ((46 : Nat) : Int) from rfl]
  simp only [canon_int, letter_den, retOr_ret, geqN, leqN, eqlN, bind_some', copy_bool, morB]
  cases letB b.toNat <;> cases decide (48 ≤ b.toNat) <;> cases decide (b.toNat ≤ 57) <;> rfl
theorem ixStr_at {k : IntKind} {s : List UInt8} {i : Nat} (hi : i < s.length) : ixStr (.str s) (.int k i) = some (bv s[i]) := by
  simp [ixStr, natOf, hi]
theorem ixStr_0 {k : IntKind} {s : List UInt8} (hi : 0 < s.length) : ixStr (.str s) (.int k 0) = some (bv (s.getD 0 0)) := by
  have := ixStr_at (k := k) hi
  rw [List.getD_eq_getElem?_getD, List.getElem?_eq_getElem hi]
  exact this
theorem not_bool (b : Bool) : unOp .not (.bool b) = some (.bool (!b)) := rfl
theorem rname_loop {J : Jn (AEnd × H)} {k : Nat} (hJ : warrantorref11_Name.F D k J) (s : List UInt8) (hs : s.length ≤ 2 ^ 50) (h : H) : ∀ (d i m : Nat), i + d = s.length → d < m →
    warrantorref11_Name.l0 J m (.str s) (.int .i64 i) h = some (.ret (.bool ((s.drop i).all (fun b => morB b.toNat) && (decide (0 < s.length) && (decide (s.length ≤ 32) && letB ((s.getD 0 0).toNat))))), h)
  | 0, i, m + 1, hi, _ => by
    rw [warrantorref11_Name.l0_eq hJ]
    rw [show (AV.int .i64 0) = .int .i64 ((0 : Nat) : Int) from rfl, show (AV.int .i64 32) = .int .i64 ((32 : Nat) : Int) from rfl]
    simp only [lnStr_str, bind_some', lssN, gtrN, leqN, decide_eq_false (show ¬ i < s.length by omega), condV_false]
    rw [List.drop_of_length_le (by omega), List.all_nil, Bool.true_and]
    by_cases h0 : 0 < s.length
    · rw [show (AV.int .i64 ((0 : Nat) : Int)) = .int .i64 0 from rfl]
      simp only [decide_eq_true h0, condV_true, Bool.true_and]
      by_cases h1 : s.length ≤ 32
      · simp only [decide_eq_true h1, condV_true, Bool.true_and, ixStr_0 h0, bind_some', canon_int, letter_den, retOr_ret, copy_bool]
      · simp only [decide_eq_false h1, condV_false, Bool.false_and, copy_bool]
    · simp only [decide_eq_false h0, condV_false, Bool.false_and, copy_bool]
  | d + 1, i, m + 1, hi, hm => by
    have hil : i < s.length := by omega
    have ih := rname_loop hJ s hs h d (i + 1) m (by omega) (by omega)
    rw [warrantorref11_Name.l0_eq hJ, List.drop_eq_getElem_cons hil, List.all_cons]
    simp only [lnStr_str, bind_some', lssN, decide_eq_true hil, condV_true, ixStr_at hil, canon_int, more_den, retOr_ret, not_bool]
    cases morB s[i].toNat with
    | false => simp only [Bool.not_false, condV_true, Bool.false_and]
    | true =>
      simp only [Bool.not_true, condV_false, Bool.true_and, bin_add, bind_some']
      rw [wrap_i64 (by omega) (by omega)]
      exact ih
theorem rname_den (s : List UInt8) (hs : s.length ≤ 2 ^ 50) (h : H) : D n_warrantorref11_Name [.str s] h = some (.ret (.bool (namS morB 32 s)), h) := by
  refine warrantorref11_Name.den (s.length + 1) rfl (h' := []) ?_ rfl rfl
  rw [warrantorref11_Name.f_eq (warrantorref11_Name.fx _)]
  exact rname_loop (warrantorref11_Name.fx _) s hs [] s.length 0 (s.length + 1) (by omega) (by omega)
theorem rfile_loop {J : Jn (AEnd × H)} {k : Nat} (hJ : warrantorref11_File.F D k J) (s : List UInt8) (hs : s.length ≤ 2 ^ 50) (h : H) : ∀ (d i m : Nat), i + d = s.length → d < m →
    warrantorref11_File.l0 J m (.str s) (.int .i64 i) h = some (.ret (.bool ((s.drop i).all (fun b => patB b.toNat) && (decide (0 < s.length) && (decide (s.length ≤ 64) && letB ((s.getD 0 0).toNat))))), h)
  | 0, i, m + 1, hi, _ => by
    rw [warrantorref11_File.l0_eq hJ]
    rw [show (AV.int .i64 0) = .int .i64 ((0 : Nat) : Int) from rfl, show (AV.int .i64 64) = .int .i64 ((64 : Nat) : Int) from rfl]
    simp only [lnStr_str, bind_some', lssN, gtrN, leqN, decide_eq_false (show ¬ i < s.length by omega), condV_false]
    rw [List.drop_of_length_le (by omega), List.all_nil, Bool.true_and]
    by_cases h0 : 0 < s.length
    · rw [show (AV.int .i64 ((0 : Nat) : Int)) = .int .i64 0 from rfl]
      simp only [decide_eq_true h0, condV_true, Bool.true_and]
      by_cases h1 : s.length ≤ 64
      · simp only [decide_eq_true h1, condV_true, Bool.true_and, ixStr_0 h0, bind_some', canon_int, letter_den, retOr_ret, copy_bool]
      · simp only [decide_eq_false h1, condV_false, Bool.false_and, copy_bool]
    · simp only [decide_eq_false h0, condV_false, Bool.false_and, copy_bool]
  | d + 1, i, m + 1, hi, hm => by
    have hil : i < s.length := by omega
    have ih := rfile_loop hJ s hs h d (i + 1) m (by omega) (by omega)
    have ej : ∀ b, warrantorref11_File.j0 J m (.str s) (.int .i64 i) (.bool b) h = if b then some (.ret (.bool false), h) else warrantorref11_File.l0 J m (.str s) (.int .i64 ((i + 1 : Nat) : Int)) h := by
      intro b
      rw [warrantorref11_File.j0_eq hJ]
      cases b with
      | true => rfl
      | false =>
        simp only [condV_false, bin_add, bind_some']
        rw [wrap_i64 (by omega) (by omega)]
        rfl
    rw [warrantorref11_File.l0_eq hJ, List.drop_eq_getElem_cons hil, List.all_cons]
    rw [show (AV.int .u8 45) = .int .u8 ((45 : Nat) : Int) from rfl, show (AV.int .u8 47) = .int .u8 ((47 : Nat) : Int) from rfl]
    simp only [lnStr_str, bind_some', lssN, decide_eq_true hil, condV_true, ixStr_at hil, canon_int, more_den, retOr_ret, not_bool, neqN, ej]
    have ep : patB s[i].toNat = (morB s[i].toNat || (decide (s[i].toNat = 45) || decide (s[i].toNat = 47))) := rfl
    rw [ep]
    cases morB s[i].toNat <;> cases decide (s[i].toNat = 45) <;> cases decide (s[i].toNat = 47)
    all_goals first | exact ih | rfl
theorem rfile_den (s : List UInt8) (hs : s.length ≤ 2 ^ 50) (h : H) : D n_warrantorref11_File [.str s] h = some (.ret (.bool (namS patB 64 s)), h) := by
  refine warrantorref11_File.den (s.length + 1) rfl (h' := []) ?_ rfl rfl
  rw [warrantorref11_File.f_eq (warrantorref11_File.fx _)]
  exact rfile_loop (warrantorref11_File.fx _) s hs [] s.length 0 (s.length + 1) (by omega) (by omega)
theorem rexpr_loop {J : Jn (AEnd × H)} {k : Nat} (hJ : warrantorref17_Expr.F D k J) (s : List UInt8) (hs : s.length ≤ 2 ^ 50) (h : H) : ∀ (d i m : Nat), i + d = s.length → d < m →
    warrantorref17_Expr.l0 J m (.str s) (.int .i64 i) h = some (.ret (.bool ((decide (1 ≤ s.length) && decide (s.length ≤ 128)) && !(s.drop i).any oddB)), h)
  | 0, i, m + 1, hi, _ => by
    rw [warrantorref17_Expr.l0_eq hJ]
    rw [show (AV.int .i64 1) = .int .i64 ((1 : Nat) : Int) from rfl, show (AV.int .i64 128) = .int .i64 ((128 : Nat) : Int) from rfl]
    simp only [lnStr_str, bind_some', lssN, geqN, leqN, decide_eq_false (show ¬ i < s.length by omega), condV_false]
    rw [List.drop_of_length_le (by omega), List.any_nil, Bool.not_false, Bool.and_true]
    cases decide (1 ≤ s.length) <;> simp only [condV_true, condV_false, copy_bool, Bool.true_and, Bool.false_and]
  | d + 1, i, m + 1, hi, hm => by
    have hil : i < s.length := by omega
    have ih := rexpr_loop hJ s hs h d (i + 1) m (by omega) (by omega)
    have ej : ∀ b, warrantorref17_Expr.j0 J m (.str s) (.int .i64 i) (.bool b) h = if b then some (.ret (.bool false), h) else warrantorref17_Expr.l0 J m (.str s) (.int .i64 ((i + 1 : Nat) : Int)) h := by
      intro b
      rw [warrantorref17_Expr.j0_eq hJ]
      cases b with
      | true => rfl
      | false =>
        simp only [condV_false, bin_add, bind_some']
        rw [wrap_i64 (by omega) (by omega)]
        rfl
    rw [warrantorref17_Expr.l0_eq hJ, List.drop_eq_getElem_cons hil, List.any_cons]
    rw [show (AV.int .u8 32) = .int .u8 ((32 : Nat) : Int) from rfl, show (AV.int .u8 126) = .int .u8 ((126 : Nat) : Int) from rfl]
    simp only [lnStr_str, bind_some', lssN, gtrN, decide_eq_true hil, condV_true, ixStr_at hil, ej, ih]
    have ep : oddB s[i] = (decide (s[i].toNat < 32) || decide (126 < s[i].toNat)) := rfl
    rw [ep]
    cases decide (s[i].toNat < 32) <;> cases decide (126 < s[i].toNat)
    all_goals simp only [condV_true, condV_false, if_true, Bool.false_eq_true, if_false, Bool.true_or, Bool.or_true, Bool.false_or, Bool.not_true, Bool.and_false]
theorem rexpr_den (s : List UInt8) (hs : s.length ≤ 2 ^ 50) (h : H) : D n_warrantorref17_Expr [.str s] h = some (.ret (.bool (exprS s)), h) := by
  refine warrantorref17_Expr.den (s.length + 1) rfl (h' := []) ?_ rfl rfl
  rw [warrantorref17_Expr.f_eq (warrantorref17_Expr.fx _)]
  exact rexpr_loop (warrantorref17_Expr.fx _) s hs [] s.length 0 (s.length + 1) (by omega) (by omega)
theorem rnote_den (s : List UInt8) (hs : s.length ≤ 2 ^ 50) (h : H) : D n_warrantorref21_Note [.str s] h = some (.ret (.bool (noteS s)), h) := by
  refine warrantorref21_Note.den 1 rfl (h' := []) ?_ rfl rfl
  rw [warrantorref21_Note.f_eq (warrantorref21_Note.fx _)]
  rw [show (AV.int .i64 0) = .int .i64 ((0 : Nat) : Int) from rfl, show (AV.int .i64 64) = .int .i64 ((64 : Nat) : Int) from rfl]
  simp only [lnStr_str, bind_some', eqlN, leqN, canon_str, rexpr_den s hs, retOr_ret, copy_bool]
  unfold noteS exprS
  by_cases h0 : s.length = 0
  · have : s = [] := List.eq_nil_of_length_eq_zero h0
    subst this
    rfl
  · simp only [decide_eq_false h0, condV_false]
    by_cases h1 : s.length ≤ 64
    · simp only [decide_eq_true h1, condV_true, decide_eq_true (show 1 ≤ s.length by omega), decide_eq_true (show s.length ≤ 128 by omega), Bool.true_and]
    · simp only [decide_eq_false h1, condV_false, Bool.false_and]
end Go.Proofs.YtdlnkfghgbddhaaGreat
