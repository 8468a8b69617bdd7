import Derived.Test.YtficgmeakeiacaaVb0
import Derived.Test.YtficgmeakeiacaaP5L
set_option linter.all false
open Go Go.Ve Go.Proofs
namespace Go.Proofs.Ytficgmeakeiacaa
set_option maxRecDepth 100000
set_option linter.all false
theorem lssN {k : IntKind} (n m : Nat) : bin .lss (.int k (n : Int)) (.int k (m : Int)) = some (.bool (decide (n < m))) := by rw [bin_lss]; congr 2; exact decide_eq_decide.2 (by omega)
theorem leqN {k : IntKind} (n m : Nat) : bin .leq (.int k (n : Int)) (.int k (m : Int)) = some (.bool (decide (n ≤ m))) := by rw [bin_leq]; congr 2; exact decide_eq_decide.2 (by omega)
theorem gtrN {k : IntKind} (n m : Nat) : bin .gtr (.int k (n : Int)) (.int k (m : Int)) = some (.bool (decide (m < n))) := by rw [bin_gtr]; congr 2; exact decide_eq_decide.2 (by omega)
theorem neqN {k : IntKind} (n m : Nat) : bin .neq (.int k (n : Int)) (.int k (m : Int)) = some (.bool (decide (n ≠ m))) := by rw [bin_neq]; congr 2; exact decide_eq_decide.2 (by omega)
theorem add1 (i : Nat) (hi : i < 2 ^ 60) : bin .add (.int .i64 (i : Int)) (.int .i64 1) = some (.int .i64 ((i + 1 : Nat) : Int)) := by
  rw [bin_add, wrap_i64 (by omega) (by omega)]; rfl
theorem sub1 (i : Nat) (hi : i < 2 ^ 60) : bin .sub (.int .i64 ((i + 1 : Nat) : Int)) (.int .i64 1) = some (.int .i64 (i : Int)) := by
  rw [bin_sub, wrap_i64 (by omega) (by omega)]
  congr 2
  omega
theorem TL_len (l : List Tx) (o : Own) : lnSl (TL l o) = some (.int .i64 l.length) := by simp [TL]
theorem TL_at {k : IntKind} {l : List Tx} {o : Own} {i : Nat} (hi : i < l.length) : ixSlice 1 (TL l o) (.int k i) = some (.rptr (txRow l[i]) 0) := ixSlice_map hi (fun _ => rfl)
theorem tx0 (s : Tx) : (txRow s)[0]? = some (.str s) := rfl
@[simp] theorem TL_pure (l : List Tx) : pureR (l.map txRow) = true := pureR_map (fun s => by simp [txRow, pureL, AV.pure])
theorem str_leq (a b : Tx) : bin .leq (.str a) (.str b) = some (.bool (!decide (b < a))) := by
  rw [bin_str]
  show some (AV.bool (Op.bytesLess a b || a == b)) = _
  rw [less_eq]
  congr 2
  rcases tx_tri a b with h | h | h
  · rw [decide_eq_true h, decide_eq_false (tx_asymm h)]; rfl
  · subst h; rw [decide_eq_false (tx_irrefl a)]; simp
  · rw [decide_eq_false (tx_asymm h), decide_eq_true h]
    have : a ≠ b := fun e => tx_irrefl a (e ▸ h)
    simp [this]
theorem str_eq (a b : Tx) : bin .eql (.str a) (.str b) = some (.bool (decide (a = b))) := by rw [bin_str, strBin_eql]
theorem str_ne (a b : Tx) : bin .neq (.str a) (.str b) = some (.bool (decide (a ≠ b))) := by rw [bin_str, strBin_neq]
def big (n : Nat) (l : List Tx) : Bool := l.any fun s => decide (n < s.length)
def large (l : List Tx) : Bool := decide (200 < l.length) || big 400 l
def chk (l : List Tx) : Nat := if 4096 < l.length ∨ big 256 l = true then 3 else if incr l = true then 0 else 50
theorem chk_long {l : List Tx} (h : 4096 < l.length) : chk l = 3 := by unfold chk; rw [if_pos (Or.inl h)]
theorem chk_big {l : List Tx} (h : big 256 l = true) : chk l = 3 := by unfold chk; rw [if_pos (Or.inr h)]
theorem chk_else {l : List Tx} (h1 : ¬ 4096 < l.length) (h2 : ¬ big 256 l = true) : chk l = if incr l = true then 0 else 50 := by unfold chk; rw [if_neg (fun h => Or.elim h h1 h2)]
theorem gtr400 (n : Nat) : bin .gtr (.int .i64 (n : Int)) (.int .i64 400) = some (.bool (decide (400 < n))) := gtrN n 400
theorem gtr256 (n : Nat) : bin .gtr (.int .i64 (n : Int)) (.int .i64 256) = some (.bool (decide (256 < n))) := gtrN n 256
theorem large_loop {J : Jn (AEnd × H)} {k : Nat} (hJ : ref05_Large.F D k J) (l : List Tx) (hl : l.length ≤ 2 ^ 50) (h : H) : ∀ (d i m : Nat), i + d = l.length → d < m →
    ref05_Large.l0 J m (TL l) (.int .i64 i) h = some (.ret (.bool (big 400 (l.drop i))), h)
  | 0, i, m + 1, hi, _ => by
    rw [ref05_Large.l0_eq hJ]
    simp only [TL_len, bind_some', lssN, decide_eq_false (show ¬ i < l.length by omega), condV_false]
    rw [List.drop_of_length_le (by omega)]
    rfl
  | d + 1, i, m + 1, hi, hm => by
    have hil : i < l.length := by omega
    have ih := large_loop hJ l hl h d (i + 1) m (by omega) (by omega)
    rw [ref05_Large.l0_eq hJ, List.drop_eq_getElem_cons hil, big, List.any_cons]
    simp only [TL_len, bind_some', lssN, decide_eq_true hil, condV_true, TL_at hil, ldCell_rptr, tx0, lnStr_str, gtr400, add1 i (by omega), ih]
    cases decide (400 < l[i].length) <;> rfl
theorem large_den (l : List Tx) (h : H) : D n_warrantorref05_Large [TL l] h = some (.ret (.bool (large l)), h) := by
  refine ref05_Large.den (l.length + 1) (by simp) (h' := []) ?_ rfl rfl
  rw [ref05_Large.f_eq (ref05_Large.fx _)]
  have g := gtrN (k := .i64) l.length 200
  rw [show (((200 : Nat) : Int)) = 200 from rfl] at g
  simp only [TL_len, bind_some', g]
  unfold large
  by_cases hl : 200 < l.length
  · rw [decide_eq_true hl]; rfl
  · rw [show (.int .i64 0 : AV) = .int .i64 ((0 : Nat) : Int) from rfl, large_loop (ref05_Large.fx _) l (by omega) [] l.length 0 (l.length + 1) (by omega) (by omega), decide_eq_false hl]
    rfl
theorem rsame_loop {J : Jn (AEnd × H)} {k : Nat} (hJ : ref05_Same.F D k J) (l l' : List Tx) (he : l.length = l'.length) (hl : l.length ≤ 2 ^ 50) (h : H) : ∀ (d i m : Nat), i + d = l.length → d < m →
    ref05_Same.l0 J m (TL l) (TL l') (.int .i64 i) h = some (.ret (.bool (decide (l.drop i = l'.drop i))), h)
  | 0, i, m + 1, hi, _ => by
    rw [ref05_Same.l0_eq hJ]
    simp only [TL_len, bind_some', lssN, decide_eq_false (show ¬ i < l.length by omega), condV_false]
    rw [List.drop_of_length_le (by omega), List.drop_of_length_le (by omega)]
    rfl
  | d + 1, i, m + 1, hi, hm => by
    have hil : i < l.length := by omega
    have hil' : i < l'.length := by omega
    have ih := rsame_loop hJ l l' he hl h d (i + 1) m (by omega) (by omega)
    rw [ref05_Same.l0_eq hJ, List.drop_eq_getElem_cons hil, List.drop_eq_getElem_cons hil']
    simp only [TL_len, bind_some', lssN, decide_eq_true hil, condV_true, TL_at hil, TL_at hil', ldCell_rptr, tx0, str_ne, add1 i (by omega), ih, List.cons.injEq]
    by_cases hx : l[i] = l'[i]
    · simp only [hx, ne_eq, not_true_eq_false, decide_false, condV_false, true_and]
    · simp only [hx, ne_eq, not_false_eq_true, decide_true, condV_true, false_and, decide_false]
theorem rsame_den (l l' : List Tx) (hl : l.length ≤ 2 ^ 50) (h : H) : D n_warrantorref05_Same [TL l, TL l'] h = some (.ret (.bool (decide (l = l'))), h) := by
  refine ref05_Same.den (l.length + 1) (by simp) (h' := []) ?_ rfl rfl
  rw [ref05_Same.f_eq (ref05_Same.fx _)]
  simp only [TL_len, bind_some', neqN]
  by_cases he : l.length = l'.length
  · simp only [decide_eq_false (show ¬ l.length ≠ l'.length from fun h => h he), condV_false]
    exact rsame_loop (ref05_Same.fx _) l l' he hl [] l.length 0 (l.length + 1) (by omega) (by omega)
  · simp only [decide_eq_true (show l.length ≠ l'.length from he), condV_true]
    rw [decide_eq_false (fun h => he (by rw [h]))]
theorem incr_drop {l : List Tx} {i : Nat} (hi : i + 1 < l.length) : incr (l.drop i) = (decide (l[i] < l[i + 1]) && incr (l.drop (i + 1))) := by
  rw [List.drop_eq_getElem_cons (show i < l.length by omega), List.drop_eq_getElem_cons hi, incr]
theorem incr_one {l : List Tx} {i : Nat} (hi : l.length ≤ i + 1) : incr (l.drop i) = true := by
  have : (l.drop i).length ≤ 1 := by rw [List.length_drop]; omega
  match l.drop i, this with
  | [], _ => rfl
  | [x], _ => rfl
theorem chk_loop {J : Jn (AEnd × H)} {k : Nat} (hJ : strs_Check.F D k J) (l : List Tx) (hl : l.length ≤ 2 ^ 50) (h : H) : ∀ (d i m : Nat), i + 1 + d = l.length + 1 → d < m →
    strs_Check.l0 J m (TL l) (.int .i64 ((i + 1 : Nat) : Int)) h = some (.ret (.int .i64 (if incr (l.drop i) then 0 else 50)), h)
  | 0, i, m + 1, hi, _ => by
    rw [strs_Check.l0_eq hJ, incr_one (by omega)]
    simp only [TL_len, bind_some', lssN, decide_eq_false (show ¬ i + 1 < l.length by omega), condV_false]
    rfl
  | d + 1, i, m + 1, hi, hm => by
    by_cases hil : i + 1 < l.length
    · have ih := chk_loop hJ l hl h d (i + 1) m (by omega) (by omega)
      rw [strs_Check.l0_eq hJ, incr_drop hil]
      simp only [TL_len, bind_some', lssN, decide_eq_true hil, condV_true, TL_at hil, ldCell_rptr, tx0, sub1 i (by omega), TL_at (show i < l.length by omega), str_leq, add1 (i + 1) (by omega), ih]
      cases decide (l[i] < l[i + 1]) <;> rfl
    · rw [strs_Check.l0_eq hJ, incr_one (by omega)]
      simp only [TL_len, bind_some', lssN, decide_eq_false hil, condV_false]
      rfl
theorem long_loop {J : Jn (AEnd × H)} {k : Nat} (hJ : slices_IndexFunc_string_string.F D k J) (l : List Tx) (hl : l.length ≤ 2 ^ 50) (h : H) : ∀ (d i m : Nat), i + d = l.length → d < m →
    ∃ r, slices_IndexFunc_string_string.l0 J m (TL l) (.func (.func n_strs_Check_c1) [] []) (.int .i64 l.length) (.int .i64 i) h = some (.ret (.int .i64 r), h) ∧ (r ≥ 0 ↔ big 256 (l.drop i) = true)
  | 0, i, m + 1, hi, _ => by
    rw [slices_IndexFunc_string_string.l0_eq hJ, List.drop_of_length_le (by omega)]
    refine ⟨-1, ?_, by simp [big]⟩
    simp only [lssN, decide_eq_false (show ¬ i < l.length by omega), bind_some', condV_false]
  | d + 1, i, m + 1, hi, hm => by
    have hil : i < l.length := by omega
    obtain ⟨r, e, q⟩ := long_loop hJ l hl h d (i + 1) m (by omega) (by omega)
    have hc : callVal D h (.func (.func n_strs_Check_c1) [] []) [.str l[i]] = some (.ret (.bool (decide (256 < l[i].length))), h) := by
      show D n_strs_Check_c1 [.str l[i]] h = _
      refine strs_Check_c1.den 1 (by simp [pureL, AV.pure]) (h' := []) ?_ rfl rfl
      rw [strs_Check_c1.f_eq (strs_Check_c1.fx _)]
      simp only [lnStr_str, bind_some', gtr256, copy_bool]
    rw [slices_IndexFunc_string_string.l0_eq hJ, List.drop_eq_getElem_cons hil, big, List.any_cons]
    simp only [lssN, decide_eq_true hil, bind_some', condV_true, TL_at hil, ldCell_rptr, tx0, canon_str, hc, retOr_ret, add1 i (by omega), copy_int]
    cases hb : decide (256 < l[i].length) with
    | true => exact ⟨i, rfl, by simp⟩
    | false => exact ⟨r, e, by simpa [big] using q⟩
theorem chk_den (l : List Tx) (hl : l.length ≤ 2 ^ 50) (h : H) : D n_strs_Check [TL l] h = some (.ret (.int .i64 (chk l)), h) := by
  obtain ⟨r, e, q⟩ := long_loop (slices_IndexFunc_string_string.fx (l.length + 1)) l hl [] l.length 0 (l.length + 1) (by omega) (by omega)
  have d1 : ∀ h, D n_slices_IndexFunc_string_string [TL l, .func (.func n_strs_Check_c1) [] []] h = some (.ret (.int .i64 r), h) := by
    intro h
    refine slices_IndexFunc_string_string.den (l.length + 1) (by simp [pureL, AV.pure]) (h' := []) ?_ rfl rfl
    rw [slices_IndexFunc_string_string.f_eq (slices_IndexFunc_string_string.fx _)]
    simp only [TL_len, bind_some']
    exact e
  have d2 : ∀ h, D n_slices_ContainsFunc_string_string [TL l, .func (.func n_strs_Check_c1) [] []] h = some (.ret (.bool (decide (r ≥ 0))), h) := by
    intro h
    refine slices_ContainsFunc_string_string.den 1 (by simp [pureL, AV.pure]) (h' := []) ?_ rfl rfl
    rw [slices_ContainsFunc_string_string.f_eq (slices_ContainsFunc_string_string.fx _)]
    simp only [canon_list, canon_func, d1, bind_some', retOr_ret, bin_geq, copy_bool]
  have g := gtrN (k := .i64) l.length 4096
  rw [show (((4096 : Nat) : Int)) = 4096 from rfl] at g
  rw [List.drop_zero] at q
  have ej : ∀ b : Bool, strs_Check.j1 (strs_Check.JD (l.length + 2)) (TL l) (.bool b) [] = some (.ret (.int .i64 (if b then 3 else if incr l then 0 else 50)), []) := by
    intro b
    rw [strs_Check.j1_eq (strs_Check.fx _)]
    cases b with
    | true => rfl
    | false =>
      simp only [condV_false, Bool.false_eq_true, if_false]
      rw [strs_Check.j0_eq (strs_Check.fx _)]
      exact chk_loop (strs_Check.fx _) l hl [] l.length 0 (l.length + 2) (by omega) (by omega)
  refine strs_Check.den (l.length + 2) (by simp) (h' := []) ?_ rfl rfl
  rw [strs_Check.f_eq (strs_Check.fx _)]
  simp only [TL_len, bind_some', g, canon_list, canon_func, d2, retOr_ret, ej]
  by_cases h1 : 4096 < l.length
  · rw [decide_eq_true h1, chk_long h1]; rfl
  · rw [decide_eq_false h1]
    by_cases h2 : big 256 l = true
    · rw [chk_big h2]
      simp only [condV_false, decide_eq_true (q.2 h2), if_true]
      rfl
    · rw [chk_else h1 h2]
      simp only [condV_false, decide_eq_false (show ¬ r ≥ 0 from fun h => h2 (q.1 h)), Bool.false_eq_true, if_false]
      cases incr l <;> rfl
theorem rchk_l1 {J : Jn (AEnd × H)} {k : Nat} (hJ : ref05_Check.F D k J) (l : List Tx) (hl : l.length ≤ 2 ^ 50) (h : H) : ∀ (d i m : Nat), i + 1 + d = l.length + 1 → d < m →
    ref05_Check.l1 J m (TL l) (.int .i64 ((i + 1 : Nat) : Int)) h = some (.ret (.int .i64 (if incr (l.drop i) then 0 else 50)), h)
  | 0, i, m + 1, hi, _ => by
    rw [ref05_Check.l1_eq hJ, incr_one (by omega)]
    simp only [TL_len, bind_some', lssN, decide_eq_false (show ¬ i + 1 < l.length by omega), condV_false]
    rfl
  | d + 1, i, m + 1, hi, hm => by
    by_cases hil : i + 1 < l.length
    · have ih := rchk_l1 hJ l hl h d (i + 1) m (by omega) (by omega)
      rw [ref05_Check.l1_eq hJ, incr_drop hil]
      simp only [TL_len, bind_some', lssN, decide_eq_true hil, condV_true, TL_at hil, ldCell_rptr, tx0, sub1 i (by omega), TL_at (show i < l.length by omega), str_leq, add1 (i + 1) (by omega), ih]
      cases decide (l[i] < l[i + 1]) <;> rfl
    · rw [ref05_Check.l1_eq hJ, incr_one (by omega)]
      simp only [TL_len, bind_some', lssN, decide_eq_false hil, condV_false]
      rfl
theorem rchk_l0 {J : Jn (AEnd × H)} (l : List Tx) (hJ : ref05_Check.F D (l.length + 2) J) (hl : l.length ≤ 2 ^ 50) (h : H) : ∀ (d i m : Nat), i + d = l.length → d < m →
    ref05_Check.l0 J m (TL l) (.int .i64 i) h = some (.ret (.int .i64 (if big 256 (l.drop i) then 3 else if incr l then 0 else 50)), h)
  | 0, i, m + 1, hi, _ => by
    rw [ref05_Check.l0_eq hJ, List.drop_of_length_le (by omega)]
    simp only [TL_len, bind_some', lssN, decide_eq_false (show ¬ i < l.length by omega), condV_false]
    exact rchk_l1 hJ l hl h l.length 0 (l.length + 2) (by omega) (by omega)
  | d + 1, i, m + 1, hi, hm => by
    have hil : i < l.length := by omega
    have ih := rchk_l0 l hJ hl h d (i + 1) m (by omega) (by omega)
    rw [ref05_Check.l0_eq hJ, List.drop_eq_getElem_cons hil, big, List.any_cons]
    simp only [TL_len, bind_some', lssN, decide_eq_true hil, condV_true, TL_at hil, ldCell_rptr, tx0, lnStr_str, gtr256, add1 i (by omega), ih]
    cases decide (256 < l[i].length) <;> rfl
theorem rchk_den (l : List Tx) (hl : l.length ≤ 2 ^ 50) (h : H) : D n_warrantorref05_Check [TL l] h = some (.ret (.int .i64 (chk l)), h) := by
  refine ref05_Check.den (l.length + 2) (by simp) (h' := []) ?_ rfl rfl
  rw [ref05_Check.f_eq (ref05_Check.fx _)]
  have g := gtrN (k := .i64) l.length 4096
  rw [show (((4096 : Nat) : Int)) = 4096 from rfl] at g
  simp only [TL_len, bind_some', g]
  by_cases h1 : 4096 < l.length
  · rw [decide_eq_true h1, chk_long h1]; rfl
  · rw [decide_eq_false h1, show (.int .i64 0 : AV) = .int .i64 ((0 : Nat) : Int) from rfl, rchk_l0 l (ref05_Check.fx _) hl [] l.length 0 (l.length + 2) (by omega) (by omega), List.drop_zero]
    by_cases h2 : big 256 l = true
    · rw [chk_big h2, if_pos h2]; rfl
    · rw [chk_else h1 h2, if_neg h2]
      cases incr l <;> rfl
end Go.Proofs.Ytficgmeakeiacaa

open Go Go.Ve Go.Proofs
namespace Go.Proofs.Ytficgmeakeiacaa
set_option maxRecDepth 100000
set_option linter.all false
theorem not_bool (b : Bool) : unOp .not (.bool b) = some (.bool (!b)) := rfl
theorem chk_incr {l : List Tx} (h : chk l = 0) : incr l = true ∧ l.length ≤ 4096 ∧ big 256 l = false := by
  unfold chk at h
  split at h
  · exact absurd h (by decide)
  · rename_i h1
    split at h
    · rename_i h2
      exact ⟨h2, Nat.not_lt.mp fun h3 => h1 (Or.inl h3), Bool.eq_false_iff.mpr fun h3 => h1 (Or.inr h3)⟩
    · exact absurd h (by decide)
theorem TL_app {l l' : List Tx} {o o' : Own} {owned : Bool} {h : H} (ho : mayApp o 1 owned = true) (hl : l.length + l'.length ≤ 2 ^ 40) : apSlice 1 16 false owned h (TL l o) (TL l' o') = some (TL (l ++ l') (.own 1)) := by
  have := ap_map (h := h) (f := txRow) (l := l) (l' := l') (o := o) (o' := o') (s := 1) (bytes := 16) (byte := false) (owned := owned) ho (by decide) (fun _ => rfl) (by omega) (by omega)
  exact this
end Go.Proofs.Ytficgmeakeiacaa

open Go Go.Ve Go.Proofs
namespace Go.Proofs.Ytficgmeakeiacaa
set_option maxRecDepth 100000
set_option linter.all false
def shr : Tx → Tx → Nat
  | x :: a, y :: b => if x = y then shr a b + 1 else 0
  | _, _ => 0
theorem shr_le : ∀ (a b : Tx), shr a b ≤ a.length ∧ shr a b ≤ b.length ∧ a.take (shr a b) = b.take (shr a b)
  | [], b => by simp [shr]
  | x :: a, [] => by simp [shr]
  | x :: a, y :: b => by
    unfold shr
    by_cases h : x = y
    · rw [if_pos h]
      obtain ⟨h1, h2, h3⟩ := shr_le a b
      simp [h, h3, h1, h2]
    · rw [if_neg h]; simp
theorem ixStr_at {s : Tx} {k : IntKind} {i : Nat} (h : i < s.length) : ixStr (.str s) (.int k (i : Int)) = some (bv s[i]) := by
  simp [ixStr, natOf, h]
theorem bv_ne (a b : UInt8) : bin .neq (bv a) (bv b) = some (.bool (decide (a ≠ b))) := by
  rw [bin_neq]
  congr 2
  exact decide_eq_decide.2 ⟨fun h e => h (by rw [e]), fun h e => h (UInt8.toNat_inj.mp (by omega))⟩
theorem bv_eq (a b : UInt8) : bin .eql (bv a) (bv b) = some (.bool (decide (a = b))) := by
  rw [bin_eql]
  congr 2
  exact decide_eq_decide.2 ⟨fun e => UInt8.toNat_inj.mp (by omega), fun h => by rw [h]⟩
theorem minN (a b : Nat) : maxMinAll false [.int .i64 (a : Int), .int .i64 (b : Int)] = some (.int .i64 ((min a b : Nat) : Int)) := by
  show some (AV.int .i64 (if (b : Int) < (a : Int) then (b : Int) else (a : Int))) = _
  congr 2
  split <;> omega
theorem slStr_from {s : Tx} {k : IntKind} {i : Nat} (h : i ≤ s.length) : slStr (.str s) (some (.int k (i : Int))) none = some (.str (s.drop i)) := by
  unfold slStr
  simp [bound, natOf, h]
theorem slStr_to {s : Tx} {k : IntKind} {i : Nat} (h : i ≤ s.length) : slStr (.str s) none (some (.int k (i : Int))) = some (.str (s.take i)) := by
  unfold slStr
  simp [bound, natOf, h]
theorem str_add {a b : Tx} (h : a.length + b.length < 2 ^ 62) : bin .add (.str a) (.str b) = some (.str (a ++ b)) := by
  rw [bin_str]
  unfold strBin
  rw [if_pos h]
theorem i64_u64 {n : Nat} (h : n < 2 ^ 62) : cvInt .u64 (.int .i64 (n : Int)) = some (.int .u64 (n : Int)) := by rw [cvInt_int, wrap_u64 (by omega) (by omega)]
theorem sh_loop {J : Jn (AEnd × H)} {k : Nat} (hJ : strs_shares.F D k J) (a b : Tx) (ha : a.length ≤ 2 ^ 40) (h : H) : ∀ (d i m : Nat), i + d = min a.length b.length → d < m →
    strs_shares.l0 J m (.str a) (.str b) (.int .i64 ((min a.length b.length : Nat) : Int)) (.int .i64 ((min a.length b.length : Nat) : Int)) (.int .i64 (i : Int)) h = some (.ret (.int .i64 ((i + shr (a.drop i) (b.drop i) : Nat) : Int)), h)
  | 0, i, m + 1, hi, _ => by
    rw [strs_shares.l0_eq hJ]
    simp only [lssN, decide_eq_false (show ¬ i < min a.length b.length by omega), bind_some', condV_false, copy_int]
    have e : shr (a.drop i) (b.drop i) = 0 := by
      rcases Nat.le_total a.length b.length with h1 | h1
      · rw [List.drop_of_length_le (show a.length ≤ i by omega)]; rfl
      · rw [List.drop_of_length_le (show b.length ≤ i by omega)]; cases a.drop i <;> rfl
    rw [e, ← hi]
  | d + 1, i, m + 1, hi, hm => by
    have h1 : i < a.length := by omega
    have h2 : i < b.length := by omega
    have ih := sh_loop hJ a b ha h d (i + 1) m (by omega) (by omega)
    rw [strs_shares.l0_eq hJ, List.drop_eq_getElem_cons h1, List.drop_eq_getElem_cons h2, shr]
    simp only [lssN, decide_eq_true (show i < min a.length b.length by omega), bind_some', condV_true, ixStr_at h1, ixStr_at h2, bv_ne, add1 i (by omega), ih, copy_int]
    by_cases he : a[i] = b[i]
    · rw [decide_eq_false (fun h => h he), if_pos he, condV_false]
      congr 4
      omega
    · rw [decide_eq_true he, if_neg he]; rfl
theorem shares_den (a b : Tx) (ha : a.length ≤ 2 ^ 40) (h : H) : D n_strs_shares [.str a, .str b] h = some (.ret (.int .i64 (shr a b)), h) := by
  refine strs_shares.den (min a.length b.length + 1) (by simp [pureL, AV.pure]) (h' := []) ?_ rfl rfl
  rw [strs_shares.f_eq (strs_shares.fx _)]
  simp only [lnStr_str, bind_some', minN]
  have := sh_loop (strs_shares.fx (min a.length b.length + 1)) a b ha [] (min a.length b.length) 0 (min a.length b.length + 1) (by omega) (by omega)
  rw [List.drop_zero, List.drop_zero, Nat.zero_add] at this
  exact this
theorem rsh_loop {J : Jn (AEnd × H)} {k : Nat} (hJ : ref05_shares.F D k J) (a b : Tx) (ha : a.length ≤ 2 ^ 40) (h : H) : ∀ (d i m : Nat), i + d = min a.length b.length → d < m →
    ref05_shares.l0 J m (.str a) (.str b) (.int .i64 (i : Int)) h = some (.ret (.int .i64 ((i + shr (a.drop i) (b.drop i) : Nat) : Int)), h)
  | 0, i, m + 1, hi, _ => by
    rw [ref05_shares.l0_eq hJ]
    have e : shr (a.drop i) (b.drop i) = 0 := by
      rcases Nat.le_total a.length b.length with h1 | h1
      · rw [List.drop_of_length_le (show a.length ≤ i by omega)]; rfl
      · rw [List.drop_of_length_le (show b.length ≤ i by omega)]; cases a.drop i <;> rfl
    rw [e]
    simp only [lnStr_str, lssN, bind_some', copy_int]
    by_cases h1 : i < a.length
    · have h2 : ¬ i < b.length := by omega
      rw [decide_eq_true h1, decide_eq_false h2]; rfl
    · rw [decide_eq_false h1]; rfl
  | d + 1, i, m + 1, hi, hm => by
    have h1 : i < a.length := by omega
    have h2 : i < b.length := by omega
    have ih := rsh_loop hJ a b ha h d (i + 1) m (by omega) (by omega)
    rw [ref05_shares.l0_eq hJ, List.drop_eq_getElem_cons h1, List.drop_eq_getElem_cons h2, shr]
    simp only [lnStr_str, lssN, decide_eq_true h1, decide_eq_true h2, bind_some', condV_true, ixStr_at h1, ixStr_at h2, bv_eq, add1 i (by omega), ih, copy_int]
    by_cases he : a[i] = b[i]
    · rw [decide_eq_true he, if_pos he, condV_true]
      congr 4
      omega
    · rw [decide_eq_false he, if_neg he]; rfl
theorem rshares_den (a b : Tx) (ha : a.length ≤ 2 ^ 40) (h : H) : D n_warrantorref05_shares [.str a, .str b] h = some (.ret (.int .i64 (shr a b)), h) := by
  refine ref05_shares.den (min a.length b.length + 1) (by simp [pureL, AV.pure]) (h' := []) ?_ rfl rfl
  rw [ref05_shares.f_eq (ref05_shares.fx _)]
  have := rsh_loop (ref05_shares.fx (min a.length b.length + 1)) a b ha [] (min a.length b.length) 0 (min a.length b.length + 1) (by omega) (by omega)
  rw [List.drop_zero, List.drop_zero, Nat.zero_add] at this
  exact this
def tabGo : Tx → List Tx → List UInt8
  | _, [] => []
  | last, s :: l => lebB (shr last s) ++ (txB (s.drop (shr last s)) ++ tabGo s l)
def tabB (l : List Tx) : List UInt8 := lebB l.length ++ tabGo [] l
theorem txB_len {s : List UInt8} (h : s.length ≤ 2 ^ 40) : (txB s).length ≤ s.length + 10 := by
  have := lebB_10 (n := s.length) (by omega)
  simp [txB]; omega
def Short (l : List Tx) : Prop := ∀ s ∈ l, s.length ≤ 256
theorem short_of {l : List Tx} (h : big 256 l = false) : Short l := by
  intro s hs
  rcases Nat.lt_or_ge 256 s.length with h1 | h1
  · have : big 256 l = true := List.any_eq_true.mpr ⟨s, hs, decide_eq_true h1⟩
    rw [h] at this
    exact absurd this (by decide)
  · exact h1
theorem tabGo_len : ∀ (last : Tx) (l : List Tx), Short l → (tabGo last l).length ≤ 300 * l.length
  | _, [], _ => by simp [tabGo]
  | last, s :: l, hs => by
    have h1 := hs s (by simp)
    have ih := tabGo_len s l fun x hx => hs x (List.mem_cons_of_mem _ hx)
    have h2 := (shr_le last s).2.1
    have h3 := lebB_10 (n := shr last s) (by omega)
    have h4 := txB_len (s := s.drop (shr last s)) (by simp; omega)
    rw [List.length_drop] at h4
    simp only [tabGo, List.length_append, List.length_cons]
    omega
theorem put_loop {J : Jn (AEnd × H)} {k : Nat} (hJ : strs_Put.F D k J) {pid : Nat} {l : List Tx} (hs : Short l) (hl : l.length ≤ 2 ^ 20) : ∀ (d i m : Nat) (last : Tx) (b : List UInt8) (h : H), i + d = l.length → d < m → last.length ≤ 256 → b.length + 300 * d ≤ 2 ^ 36 → PenAt h pid b →
    ∃ h', strs_Put.l0 J m (.ptr pid 0) (.str last) (TL l) (.int .i64 l.length) (.int .i64 i) h = some (.ret (.tuple [BL (b ++ tabGo last (l.drop i)) (.own 1), .int .i64 0]), h')
  | 0, i, m + 1, last, b, h, hi, _, _, hb, hp => by
    refine ⟨h, ?_⟩
    rw [strs_Put.l0_eq hJ, List.drop_of_length_le (by omega)]
    simp only [lssN, decide_eq_false (show ¬ i < l.length by omega), bind_some', condV_false, canon_ptr, penBytes_den h pid b hp (show b.length ≤ 2 ^ 40 by omega), retOr_ret]
    rw [tabGo, List.append_nil]
  | d + 1, i, m + 1, last, b, h, hi, hm, hlast, hb, hp => by
    have hil : i < l.length := by omega
    have h1 := hs l[i] (List.getElem_mem _)
    have q := shr_le last l[i]
    have h3 := lebB_10 (n := shr last l[i]) (by omega)
    have h4 := txB_len (s := l[i].drop (shr last l[i])) (by simp; omega)
    rw [List.length_drop] at h4
    obtain ⟨g1, e1, k1, p1⟩ := penU_den h pid (shr last l[i]) b hp (by omega) (by omega)
    obtain ⟨g2, e2, k2, p2⟩ := penText_den g1 pid (b ++ lebB (shr last l[i])) (l[i].drop (shr last l[i])) p1 (by simp; omega)
    obtain ⟨h', e⟩ := put_loop hJ hs hl d (i + 1) m l[i] ((b ++ lebB (shr last l[i])) ++ txB (l[i].drop (shr last l[i]))) g2 (by omega) (by omega) h1 (by simp; omega) p2
    refine ⟨h', ?_⟩
    rw [strs_Put.l0_eq hJ, List.drop_eq_getElem_cons hil, tabGo]
    simp only [lssN, decide_eq_true hil, bind_some', condV_true, TL_at hil, ldCell_rptr, tx0, canon_str, shares_den last l[i] (show last.length ≤ 2 ^ 40 by omega), retOr_ret, i64_u64 (show shr last l[i] < 2 ^ 62 by omega), canon_ptr, canon_int, e1, slStr_from q.2.1, e2, add1 i (by omega), e]
    simp only [List.append_assoc]
theorem strsPut_den (l : List Tx) (hl : l.length ≤ 2 ^ 20) (h : H) : D n_strs_Put [TL l] h = some (.ret (if chk l = 0 then .tuple [BL (tabB l) (.own 1), .int .i64 0] else .tuple [.list [] .cap, .int .i64 (chk l)]), h) := by
  have c0 := neqN (k := .i64) (chk l) 0
  rw [show (((0 : Nat) : Int)) = 0 from rfl] at c0
  by_cases h0 : chk l = 0
  · obtain ⟨h1, h2, h3⟩ := chk_incr h0
    obtain ⟨g0, e0, k0, p0⟩ := new_den ([] : H)
    obtain ⟨g1, e1, k1, p1⟩ := penU_den g0 ([] : H).length l.length [] p0 (by omega) (by simp)
    have h10 := lebB_10 (n := l.length) (by omega)
    obtain ⟨g2, e2⟩ := put_loop (strs_Put.fx (l.length + 1)) (short_of h3) hl l.length 0 (l.length + 1) [] ([] ++ lebB l.length) g1 (by omega) (by omega) (Nat.zero_le _) (by simp; omega) p1
    rw [List.drop_zero] at e2
    rw [if_pos h0]
    refine strs_Put.den (l.length + 1) (by simp) (h' := g2) ?_ (by simp [AV.pure, pureL]) rfl
    rw [strs_Put.f_eq (strs_Put.fx _)]
    simp only [canon_list, chk_den l (show l.length ≤ 2 ^ 50 by omega), bind_some', retOr_ret, c0, decide_eq_false (show ¬ chk l ≠ 0 by omega), condV_false, e0, TL_len, i64_u64 (show l.length < 2 ^ 62 by omega), canon_ptr, canon_int, e1]
    exact e2
  · rw [if_neg h0]
    refine strs_Put.den 1 (by simp) (h' := []) ?_ (by simp [AV.pure, pureL, pureR]) rfl
    rw [strs_Put.f_eq (strs_Put.fx _)]
    simp only [canon_list, chk_den l (show l.length ≤ 2 ^ 50 by omega), bind_some', retOr_ret, c0, decide_eq_true (show chk l ≠ 0 from h0), condV_true]
theorem rput_loop {J : Jn (AEnd × H)} {k : Nat} (hJ : ref05_Put.F D k J) {l : List Tx} (hs : Short l) (hl : l.length ≤ 2 ^ 20) (h : H) : ∀ (d i m : Nat) (last : Tx) (b : List UInt8), i + d = l.length → d < m → last.length ≤ 256 → b.length + 300 * d ≤ 2 ^ 36 →
    ref05_Put.l0 J m (TL l) (BL b (.own 1)) (.str last) (.int .i64 i) h = some (.ret (BL (b ++ tabGo last (l.drop i)) (.own 1)), h)
  | 0, i, m + 1, last, b, hi, _, _, hb => by
    rw [ref05_Put.l0_eq hJ, List.drop_of_length_le (by omega)]
    simp only [TL_len, lssN, decide_eq_false (show ¬ i < l.length by omega), bind_some', condV_false]
    rw [tabGo, List.append_nil]
  | d + 1, i, m + 1, last, b, hi, hm, hlast, hb => by
    have hil : i < l.length := by omega
    have h1 := hs l[i] (List.getElem_mem _)
    have q := shr_le last l[i]
    have h3 := lebB_10 (n := shr last l[i]) (by omega)
    have h4 := txB_len (s := l[i].drop (shr last l[i])) (by simp; omega)
    have h5 := h4
    rw [List.length_drop] at h4
    have ih := rput_loop hJ hs hl h d (i + 1) m l[i] ((b ++ lebB (shr last l[i])) ++ txB (l[i].drop (shr last l[i]))) (by omega) (by omega) h1 (by simp; omega)
    have a1 : apSlice 1 1 true true h (BL b (.own 1)) (BL (lebB (shr last l[i])) (.own 1)) = some (BL (b ++ lebB (shr last l[i])) (.own 1)) := BL_app rfl (by omega)
    have a2 : apSlice 1 1 true true h (BL (b ++ lebB (shr last l[i])) (.own 1)) (BL (txB (l[i].drop (shr last l[i]))) (.own 1)) = some (BL ((b ++ lebB (shr last l[i])) ++ txB (l[i].drop (shr last l[i]))) (.own 1)) := BL_app rfl (by simp; omega)
    rw [ref05_Put.l0_eq hJ, List.drop_eq_getElem_cons hil, tabGo]
    simp only [TL_len, lssN, decide_eq_true hil, bind_some', condV_true, TL_at hil, ldCell_rptr, tx0, canon_str, rshares_den last l[i] (show last.length ≤ 2 ^ 40 by omega), retOr_ret, canon_int, rNum_den (shr last l[i]) (show shr last l[i] < 2 ^ 63 by omega), a1, slStr_from q.2.1, rText_den (l[i].drop (shr last l[i])) (show (l[i].drop (shr last l[i])).length ≤ 2 ^ 38 by simp; omega), a2, add1 i (by omega), ih]
    simp only [List.append_assoc]
theorem rput_den (l : List Tx) (hl : l.length ≤ 2 ^ 20) (hs : Short l) (h : H) : D n_warrantorref05_Put [TL l] h = some (.ret (BL (tabB l) (.own 1)), h) := by
  refine ref05_Put.den (l.length + 1) (by simp) (h' := []) ?_ (by simp [AV.pure]) rfl
  have h10 := lebB_10 (n := l.length) (by omega)
  have e := rput_loop (ref05_Put.fx (l.length + 1)) hs hl [] l.length 0 (l.length + 1) [] (lebB l.length) (by omega) (by omega) (Nat.zero_le _) (by omega)
  rw [List.drop_zero] at e
  rw [ref05_Put.f_eq (ref05_Put.fx _)]
  simp only [TL_len, bind_some', canon_int, rNum_den l.length (show l.length < 2 ^ 63 by omega), retOr_ret]
  exact e
end Go.Proofs.Ytficgmeakeiacaa

open Go Go.Ve Go.Proofs
namespace Go.Proofs.Ytficgmeakeiacaa
set_option maxRecDepth 100000
set_option linter.all false
structure KS (id q : Nat) (r : Rd) (last : Tx) (first : Bool) (h : H) : Prop where
  c : ∃ a : Int, h[q]? = some (.arr [.ptr id 0, .str last, .bool first, .int .i64 a] false)
  w : RdAt h id r
  ok : r.ok
  ne : q ≠ id
theorem KS.read {id q : Nat} {r r' : Rd} {last : Tx} {first : Bool} {h h' : H} (s : KS id q r last first h) (k : Keep [id] h h') (w : RdAt h' id r') (ok : r'.ok) : KS id q r' last first h' :=
  ⟨s.c.imp fun _ hc => k.get hc (by simp; exact s.ne), w, ok, s.ne⟩
theorem count_den {h h' : H} {id q : Nat} {m : Nat} {v : AV} (e : D n_cur_Reader_Count [.ptr id 0, .int .i64 (m : Int)] h = some (.ret v, h')) (hv : retOk Try.f27 (.ret v) = true) : D n_strs_taker_count [.ptr q 0, .func (.func n_cur_Reader_Count) [.ptr id 0] [], .int .i64 (m : Int)] h = some (.ret v, h') := by
  refine strs_taker_count.den 1 ?_ hv
  rw [strs_taker_count.f_eq (strs_taker_count.fx 1)]
  have : callVal D h (.func (.func n_cur_Reader_Count) [.ptr id 0] []) [.int .i64 (m : Int)] = some (.ret v, h') := e
  simp only [canon_int, this, bind_some', retOr_ret]
theorem canonF (id : Nat) : AV.canon (.func (.func n_cur_Reader_Count) [AV.copy (.ptr id 0)] []) = .func (.func n_cur_Reader_Count) [.ptr id 0] [] := rfl
theorem clone_den (s : Tx) (hs : s.length ≤ 2 ^ 40) (h : H) : D n_strings_Clone [.str s] h = some (.ret (.str s), h) := by
  refine strings_Clone.den 1 (by simp [pureL, AV.pure]) (h' := []) ?_ rfl rfl
  rw [strings_Clone.f_eq (strings_Clone.fx 1)]
  simp only [canon_str, strClone_den s hs, bind_some', retOr_ret]
theorem rdT_tx {m : Nat} {s : List UInt8} {r : Rd} {t : List UInt8} (h : r.At (txB s ++ t)) (hm : s.length ≤ m) (hn : s.length < 2 ^ 64) : rdT m r = (s, r.go (txB s).length) := rdT_put h hm hn
theorem text_den {id q : Nat} {r : Rd} {last s : Tx} {first : Bool} {h : H} {t : List UInt8} (k : KS id q r last first h) (hr : r.At (lebB (shr last s) ++ (txB (s.drop (shr last s)) ++ t))) (hl : last.length ≤ 256) (hs : s.length ≤ 256) (hlt : first = false → last < s) :
    ∃ h', D n_strs_taker_text [.ptr q 0] h = some (.ret (.tuple [.str s, .int .i64 0]), h') ∧ KS id q ((r.go (lebB (shr last s)).length).go (txB (s.drop (shr last s))).length) s false h' ∧ ((r.go (lebB (shr last s)).length).go (txB (s.drop (shr last s))).length).At t := by
  obtain ⟨a0, c0⟩ := k.c
  have qs := shr_le last s
  have e1 := atR_den k.w
  obtain ⟨h2, e2, k2, w2⟩ := cntR_den (m := 256) k.w k.ok (by decide)
  have n2 := rdN_put (m := 256) hr (by omega) (by omega)
  have ok2 := (rdN_ok (m := 256) k.ok).1
  rw [n2] at e2 w2 ok2
  have hr2 := hr.next
  have hdl : (s.drop (shr last s)).length ≤ 256 := by rw [List.length_drop]; omega
  obtain ⟨h3, e3, k3, w3⟩ := textR_den (m := 256) w2 ok2 (by decide)
  have n3 := rdT_tx (m := 256) hr2 hdl (by omega)
  have ok3 := (rdT_ok (m := 256) ok2).1
  rw [n3] at e3 w3 ok3
  have hr3 := hr2.next
  have e4 := errR_den w3
  have e4' : ((r.go (lebB (shr last s)).length).go (txB (s.drop (shr last s))).length).e = 0 := hr3.e
  have c2 := k2.get c0 (by simp; exact k.ne)
  have c3 := k3.get c2 (by simp; exact k.ne)
  have t3 : stN 1 h3 (.ptr q 3) (.int .i64 (r.p : Int)) = some (.undef, h3.set q (.arr [.ptr id 0, .str last, .bool first, .int .i64 (r.p : Int)] false)) := by
    rw [st_int c3 (by simp)]; rfl
  obtain ⟨h4, hh4⟩ : ∃ g, g = h3.set q (.arr [.ptr id 0, .str last, .bool first, .int .i64 (r.p : Int)] false) := ⟨_, rfl⟩
  have c4 : h4[q]? = some (.arr [.ptr id 0, .str last, .bool first, .int .i64 (r.p : Int)] false) := hh4 ▸ get_set c3
  have k4 : Keep [q] h3 h4 := hh4 ▸ .set (by simp)
  rw [← hh4] at t3
  have t5 : stN 1 h4 (.ptr q 1) (.str s) = some (.undef, h4.set q (.arr [.ptr id 0, .str s, .bool first, .int .i64 (r.p : Int)] false)) := by
    rw [st_str c4 (by simp)]; rfl
  obtain ⟨h5, hh5⟩ : ∃ g, g = h4.set q (.arr [.ptr id 0, .str s, .bool first, .int .i64 (r.p : Int)] false) := ⟨_, rfl⟩
  have c5 : h5[q]? = some (.arr [.ptr id 0, .str s, .bool first, .int .i64 (r.p : Int)] false) := hh5 ▸ get_set c4
  have k5 : Keep [q] h4 h5 := hh5 ▸ .set (by simp)
  rw [← hh5] at t5
  have t6 : stN 1 h5 (.ptr q 2) (.bool false) = some (.undef, h5.set q (.arr [.ptr id 0, .str s, .bool false, .int .i64 (r.p : Int)] false)) := by
    rw [st_bool c5 (by simp)]; rfl
  obtain ⟨h6, hh6⟩ : ∃ g, g = h5.set q (.arr [.ptr id 0, .str s, .bool false, .int .i64 (r.p : Int)] false) := ⟨_, rfl⟩
  have c6 : h6[q]? = some (.arr [.ptr id 0, .str s, .bool false, .int .i64 (r.p : Int)] false) := hh6 ▸ get_set c5
  have k6 : Keep [q] h5 h6 := hh6 ▸ .set (by simp)
  rw [← hh6] at t6
  have w6 : RdAt h6 id ((r.go (lebB (shr last s)).length).go (txB (s.drop (shr last s))).length) := ((k4.trans k5).trans k6).rd w3 (by simp; exact fun e => k.ne e.symm)
  have cut : last.take (shr last s) ++ s.drop (shr last s) = s := by rw [qs.2.2, List.take_append_drop]
  have add : bin .add (.str (last.take (shr last s))) (.str (s.drop (shr last s))) = some (.str s) := by
    rw [str_add (by rw [List.length_take, List.length_drop]; omega), cut]
  have ej1 : strs_taker_text.j1 (strs_taker_text.JD 1) (.ptr q 0) (.str s) (.bool false) h4 = some (.ret (.tuple [.str s, .int .i64 0]), h6) := by
    rw [strs_taker_text.j1_eq (strs_taker_text.fx 1)]
    simp only [condV_false, lnStr_str, bind_some', gtr256, decide_eq_false (show ¬ 256 < s.length by omega)]
    rw [strs_taker_text.j0_eq (strs_taker_text.fx 1)]
    simp only [canon_str, clone_den s (show s.length ≤ 2 ^ 40 by omega), bind_some', retOr_ret, nilOk_ptr, fAddr_ptr, Nat.zero_add, t5, t6]
    rfl
  have ej2 : strs_taker_text.j2 (strs_taker_text.JD 1) (.ptr q 0) (.int .i64 (shr last s)) (.str s) (.bool false) h4 = some (.ret (.tuple [.str s, .int .i64 0]), h6) := by
    rw [strs_taker_text.j2_eq (strs_taker_text.fx 1)]
    simp only [condV_false, nilOk_ptr, fAddr_ptr, Nat.zero_add, bind_some', ld_at c4]
    rw [show ([AV.ptr id 0, .str last, .bool first, .int .i64 (r.p : Int)])[1]? = some (.str last) from rfl]
    simp only [bind_some', canon_str, shares_den last s (show last.length ≤ 2 ^ 40 by omega), retOr_ret, neqN, decide_eq_false (show ¬ shr last s ≠ shr last s from fun h => h rfl)]
    exact ej1
  refine ⟨h6, strs_taker_text.den 1 ?_ rfl, ⟨⟨_, c6⟩, w6, ok3, k.ne⟩, hr3⟩
  rw [strs_taker_text.f_eq (strs_taker_text.fx 1)]
  have z0 : ∀ x y z : AV, ([AV.ptr id 0, x, y, z])[0]? = some (.ptr id 0) := fun _ _ _ => rfl
  have z1 : ∀ x y z : AV, ([AV.ptr id 0, x, y, z])[1]? = some x := fun _ _ _ => rfl
  have z2 : ∀ x y z : AV, ([AV.ptr id 0, x, y, z])[2]? = some y := fun _ _ _ => rfl
  have ec := count_den (q := q) e2 rfl
  rw [show (((256 : Nat) : Int)) = 256 from rfl] at ec e3
  simp only [nilOk_ptr, fAddr_ptr, Nat.zero_add, bind_some', ld_at c0, z0, canon_ptr, e1, retOr_ret, canonF, canon_int, ec, ld_at c2, e3, ld_at c3, e4, e4', bin_neq]
  rw [show decide (((0 : Nat) : Int) ≠ 0) = false by decide]
  simp only [condV_false, t3, bind_some', ld_at c4, z1, z2, lnStr_str, gtrN, decide_eq_false (show ¬ last.length < shr last s by omega), slStr_to qs.1, add]
  cases first with
  | true =>
    rw [show unOp .not (.bool true) = some (.bool false) from rfl]
    simp only [bind_some', condV_false]
    exact ej2
  | false =>
    rw [show unOp .not (.bool false) = some (.bool true) from rfl]
    simp only [bind_some', condV_true, str_leq, decide_eq_true (hlt rfl), Bool.not_true]
    exact ej2
theorem get_loop' {J : Jn (AEnd × H)} {k : Nat} (hJ : strs_Get.F D k J) {id q : Nat} {b : List UInt8} (hb : b.length ≤ 2 ^ 40) : ∀ (l : List Tx) (m : Nat) (acc : List Tx) (o : Own) (r : Rd) (last : Tx) (first : Bool) (h : H), l.length < m → mayApp o 1 true = true → acc.length + l.length ≤ 5000 → Short l → incr l = true → last.length ≤ 256 → (first = false → ∀ s ∈ l, last < s) → KS id q r last first h → r.At (tabGo last l) →
    ∃ h' o', strs_Get.l0 J m (BL b) (.ptr q 0) (TL acc o) (.int .i64 l.length) h = some (.ret (.tuple [TL (acc ++ l) o', .int .i64 b.length, .int .i64 0]), h')
  | [], m + 1, acc, o, r, last, first, h, hm, ho, hc, hs, hi, hl, hf, ks, hr => by
    obtain ⟨a0, c0⟩ := ks.c
    obtain ⟨h1, e1, k1, w1⟩ := endR_den ks.w ks.ok
    have hz : rdE r = r := rdE_put hr
    rw [hz] at w1
    have c1 := k1.get c0 (by simp; exact ks.ne)
    have e2 := errR_den w1
    rw [hr.e] at e2
    refine ⟨h1, o, ?_⟩
    rw [strs_Get.l0_eq hJ]
    have z0 : ∀ x y z : AV, ([AV.ptr id 0, x, y, z])[0]? = some (.ptr id 0) := fun _ _ _ => rfl
    simp only [List.length_nil, bin_gtr, decide_eq_false (show ¬ (((0 : Nat) : Int) > 0) by decide), bind_some', condV_false, nilOk_ptr, fAddr_ptr, Nat.zero_add, ld_at c0, z0, canon_ptr, e1, retOr_ret, ld_at c1, e2, bin_neq]
    rw [show decide (((0 : Nat) : Int) ≠ 0) = false by decide, List.append_nil]
    simp only [condV_false, BL_len, bind_some', copy_int]
  | s :: l, m + 1, acc, o, r, last, first, h, hm, ho, hc, hs, hi, hl, hf, ks, hr => by
    have h1 := hs s (by simp)
    obtain ⟨g, e1, k1, r1⟩ := text_den (s := s) ks hr hl h1 (fun hx => hf hx s (by simp))
    obtain ⟨h', o', e⟩ := get_loop' hJ hb l m (acc ++ [s]) (.own 1) _ s false g (by simp at hm; omega) rfl (by simp at hc ⊢; omega) (fun x hx => hs x (List.mem_cons_of_mem _ hx)) (incr_tail hi) h1 (fun _ x hx => incr_all hi x hx) k1 r1
    refine ⟨h', o', ?_⟩
    have ap : apSlice 1 16 false true g (TL acc o) (TL [s] .cap) = some (TL (acc ++ [s]) (.own 1)) := TL_app ho (by simp at hc ⊢; omega)
    have m1 : mkRows 1 [.str []] 1 [(0, .str s)] = some (TL [s] .cap) := rfl
    rw [strs_Get.l0_eq hJ]
    simp only [List.length_cons, bin_gtr, decide_eq_true (show (((l.length + 1 : Nat) : Int) > 0) by omega), bind_some', condV_true, canon_ptr, e1, retOr_ret, exTuple_eq, List.getElem?_cons_zero, List.getElem?_cons_succ, bin_neq]
    rw [show decide ((0 : Int) ≠ 0) = false by decide]
    simp only [condV_false, m1, bind_some', ap, sub1 l.length (show l.length < 2 ^ 60 by simp at hc; omega), e]
    simp only [List.append_assoc, List.singleton_append]
theorem get_den (l : List Tx) (h0 : chk l = 0) (hl : l.length ≤ 200) (h : H) : ∃ o, D n_strs_Get [BL (tabB l)] h = some (.ret (.tuple [TL l o, .int .i64 (tabB l).length, .int .i64 0]), h) := by
  obtain ⟨hi, _, hg⟩ := chk_incr h0
  have hs := short_of hg
  have h10 := lebB_10 (n := l.length) (by omega)
  have hgl := tabGo_len [] l hs
  have hbl : (tabB l).length ≤ 2 ^ 32 := by rw [tabB, List.length_append]; omega
  obtain ⟨h1, e1, k1, w1⟩ := from_den ([] : H) (tabB l) .no hbl
  simp only [List.length_nil] at e1 w1
  have ok1 : (⟨tabB l, 0, 0⟩ : Rd).ok := ⟨Nat.zero_le _, hbl, Nat.zero_le _⟩
  obtain ⟨G, hG⟩ : ∃ G : H, G = h1 ++ [AObj.arr [.ptr 0 0, .str [], .bool true, .int .i64 0] false] := ⟨_, rfl⟩
  have kG : Keep [] h1 G := hG ▸ .app
  have gq : G[h1.length]? = some (.arr [.ptr 0 0, .str [], .bool true, .int .i64 0] false) := hG ▸ get_new
  have lt := w1.lt
  have ra : (⟨tabB l, 0, 0⟩ : Rd).At (lebB l.length ++ tabGo [] l) := ⟨rfl, rfl, Nat.zero_le _⟩
  obtain ⟨h2, e2, k2, w2⟩ := cntR_den (m := 4096) (kG.rd w1 (by simp)) ok1 (by decide)
  have n2 := rdN_put (m := 4096) ra (by omega) (by omega)
  have ok2 := (rdN_ok (m := 4096) ok1).1
  rw [n2] at e2 w2 ok2
  have ec := count_den (q := h1.length) e2 rfl
  rw [show (((4096 : Nat) : Int)) = 4096 from rfl] at ec
  have ks : KS 0 h1.length ((⟨tabB l, 0, 0⟩ : Rd).go (lebB l.length).length) [] true h2 := ⟨⟨0, k2.get gq (by simp only [List.mem_singleton]; omega)⟩, w2, ok2, by omega⟩
  obtain ⟨h3, o, e3⟩ := get_loop' (strs_Get.fx (l.length + 1)) (b := tabB l) (by omega) l (l.length + 1) [] .cap _ [] true h2 (by omega) rfl (by simp; omega) hs hi (Nat.zero_le _) (fun hx => nomatch hx) ks ra.next
  refine ⟨o, strs_Get.den (l.length + 1) (by simp) (h' := h3) ?_ (by simp [AV.pure, pureL]) rfl⟩
  rw [strs_Get.f_eq (strs_Get.fx _)]
  have mk : mkAgg [.nilPtr, .str [], .bool false, .int .i64 0] [(0, 1, AV.copy (.ptr 0 0)), (2, 1, AV.copy (.bool true))] = some (.agg [.ptr 0 0, .str [], .bool true, .int .i64 0]) := rfl
  simp only [BL_canon, e1, bind_some', retOr_ret, mk]
  rw [bx_agg (cs := [.ptr 0 0, .str [], .bool true, .int .i64 0]) rfl]
  simp only [bind_some', ← hG, nilOk_ptr, fAddr_ptr, Nat.zero_add, ld_at gq, List.getElem?_cons_zero, canon_ptr, canonF, canon_int, ec, retOr_ret]
  exact e3
end Go.Proofs.Ytficgmeakeiacaa

open Go Go.Ve Go.Proofs
namespace Go.Proofs.Ytficgmeakeiacaa
set_option maxRecDepth 100000
set_option linter.all false
theorem large_small {l : List Tx} (h : large l = false) : l.length ≤ 200 := by
  unfold large at h
  rw [Bool.or_eq_false_iff, decide_eq_false_iff_not] at h
  omega
end Go.Proofs.Ytficgmeakeiacaa

open Go Go.Ve Go.Proofs
namespace Go.Proofs.Ytficgmeakeiacaa
set_option maxRecDepth 100000
set_option linter.all false
theorem puts_law (l : List Tx) (h : H) : D n_warrantorlaw05_StrsPuts [TL l] h = some (.ret (.bool true), h) := by
  have j1t : law05_StrsPuts.j1 (law05_StrsPuts.JD 1) (TL l) (.bool true) [] = some (.ret (.bool true), []) := by
    rw [law05_StrsPuts.j1_eq (law05_StrsPuts.fx 1)]
    simp only [condV_true, lives05_den, bind_some', retOr_ret]
  have j1f : l.length ≤ 5000 → (l.length ≤ 4096 → large l = false) → law05_StrsPuts.j1 (law05_StrsPuts.JD 1) (TL l) (.bool false) [] = some (.ret (.bool true), []) := by
    intro hl hL
    rw [law05_StrsPuts.j1_eq (law05_StrsPuts.fx 1), condV_false, law05_StrsPuts.j0_eq (law05_StrsPuts.fx 1)]
    by_cases h0 : chk l = 0
    · obtain ⟨hi, h4, hg⟩ := chk_incr h0
      have q := large_small (hL h4)
      obtain ⟨o, eg⟩ := get_den l h0 q ([] : H)
      have es := rsame_den l l (by omega) []
      rw [decide_eq_true rfl] at es
      have c1 := chk_den l (show l.length ≤ 2 ^ 50 by omega) []
      have c2 := rchk_den l (show l.length ≤ 2 ^ 50 by omega) []
      have ep := strsPut_den l (show l.length ≤ 2 ^ 20 by omega) []
      rw [h0] at c1 c2
      rw [if_pos h0] at ep
      simp only [canon_list, ep, bind_some', retOr_ret, exTuple_eq, List.getElem?_cons_zero, List.getElem?_cons_succ, lives05_den, not_bool, Bool.not_true, condV_false, c2, c1, bin_neq]
      rw [show decide ((0 : Int) ≠ ((0 : Nat) : Int)) = false by decide]
      simp only [condV_false]
      rw [show decide (((0 : Nat) : Int) ≠ 0) = false by decide]
      rw [law05_StrsPuts.j3_eq (law05_StrsPuts.fx 1), condV_false, law05_StrsPuts.j2_eq (law05_StrsPuts.fx 1)]
      simp only [bin_neq, bind_some']
      rw [show decide ((0 : Int) ≠ 0) = false by decide]
      simp only [condV_false, BL_canon, eg, bind_some', retOr_ret, exTuple_eq, List.getElem?_cons_zero, List.getElem?_cons_succ, BL_toStr, canon_list, rput_den l (show l.length ≤ 2 ^ 20 by omega) (short_of hg), str_eq, decide_true, condV_true, bin_eql, BL_len, es, copy_bool]
    · have c1 := chk_den l (show l.length ≤ 2 ^ 50 by omega) []
      have c2 := rchk_den l (show l.length ≤ 2 ^ 50 by omega) []
      have ep := strsPut_den l (show l.length ≤ 2 ^ 20 by omega) []
      rw [if_neg h0] at ep
      have n0 := neqN (k := .i64) (chk l) 0
      rw [show (((0 : Nat) : Int)) = 0 from rfl] at n0
      simp only [canon_list, ep, bind_some', retOr_ret, exTuple_eq, List.getElem?_cons_zero, List.getElem?_cons_succ, lives05_den, not_bool, Bool.not_true, condV_false, c2, c1, neqN, decide_eq_false (show ¬ chk l ≠ chk l from fun h => h rfl)]
      rw [law05_StrsPuts.j3_eq (law05_StrsPuts.fx 1), condV_false, law05_StrsPuts.j2_eq (law05_StrsPuts.fx 1)]
      simp only [n0, bind_some', decide_eq_true (show chk l ≠ 0 from h0), condV_true, lnSl_list, List.length_nil, bin_eql, copy_bool]
      rfl
  refine law05_StrsPuts.den 1 (by simp) (h' := []) ?_ rfl rfl
  rw [law05_StrsPuts.f_eq (law05_StrsPuts.fx 1)]
  have g5 := gtrN (k := .i64) l.length 5000
  have g4 := leqN (k := .i64) l.length 4096
  rw [show (((5000 : Nat) : Int)) = 5000 from rfl] at g5
  rw [show (((4096 : Nat) : Int)) = 4096 from rfl] at g4
  simp only [TL_len, bind_some', g5, g4, canon_list, large_den, retOr_ret]
  by_cases h5 : 5000 < l.length
  · rw [decide_eq_true h5]; exact j1t
  · rw [decide_eq_false h5, condV_false]
    by_cases h4 : l.length ≤ 4096
    · rw [decide_eq_true h4, condV_true]
      cases hL : large l with
      | true => exact j1t
      | false => exact j1f (by omega) (fun _ => hL)
    · rw [decide_eq_false h4, condV_false]
      exact j1f (by omega) (fun h => absurd h h4)
end Go.Proofs.Ytficgmeakeiacaa
