/- What the functions of the records' layer come to: 12: lists of changes. -/
import Derived.Test.YtdlnkfghgbddhaaGreatPJS11
set_option linter.all false

open Go Go.Ve Go.Proofs
namespace Go.Proofs.YtdlnkfghgbddhaaGreat
set_option maxRecDepth 100000
set_option linter.all false

theorem CL_len (l : List Change) (o : Own) : lnSl (CL l o) = some (.int .i64 l.length) := by simp [CL]
theorem CL_at {k : IntKind} {l : List Change} {o : Own} {i : Nat} (hi : i < l.length) : ixSlice 11 (CL l o) (.int k i) = some (.rptr l[i].c 0) := ixSlice_map hi Change.c_len
theorem add1 (i : Nat) (hi : i < 2 ^ 60) : bin .add (.int .i64 (i : Int)) (.int .i64 1) = some (.int .i64 ((i + 1 : Nat) : Int)) := by
  rw [bin_add, wrap_i64 (by omega) (by omega)]; rfl
theorem large_loop {J : Jn (AEnd × H)} {k : Nat} (hJ : warrantorref27_Large.F D k J) (l : List Change) (hl : l.length ≤ 2 ^ 50) (h : H) : ∀ (d i m : Nat), i + d = l.length → d < m →
    warrantorref27_Large.l0 J m (CL l) (.int .i64 i) h = some (.ret (.bool ((l.drop i).any fun x => x.entry.big)), h)
  | 0, i, m + 1, hi, _ => by
    rw [warrantorref27_Large.l0_eq hJ]
    simp only [CL_len, bind_some', lssN, decide_eq_false (show ¬ i < l.length by omega), condV_false]
    rw [List.drop_of_length_le (by omega)]
    rfl
  | d + 1, i, m + 1, hi, hm => by
    have hil : i < l.length := by omega
    have ih := large_loop hJ l hl h d (i + 1) m (by omega) (by omega)
    rw [warrantorref27_Large.l0_eq hJ, List.drop_eq_getElem_cons hil, List.any_cons]
    simp only [CL_len, bind_some', lssN, decide_eq_true hil, condV_true, CL_at hil, fAddr_rptr, ldAgg_rptr, Change.entryAt, canon_agg, Entry.c_canon, eLarge_den, retOr_ret, add1 i (by omega), ih]
    cases l[i].entry.big <;> rfl
theorem large_den (l : List Change) (m : Nat) (hm : m ≤ 2 ^ 50) (h : H) : D n_warrantorref27_Large [CL l, .int .i64 m] h = some (.ret (.bool (large l m)), h) := by
  refine warrantorref27_Large.den (l.length + 1) (by simp) (h' := []) ?_ rfl rfl
  rw [warrantorref27_Large.f_eq (warrantorref27_Large.fx _)]
  simp only [CL_len, bind_some', gtrN]
  unfold large
  by_cases hl : m < l.length
  · rw [decide_eq_true hl]; rfl
  · rw [show (.int .i64 0 : AV) = .int .i64 ((0 : Nat) : Int) from rfl, large_loop (warrantorref27_Large.fx _) l (by omega) [] l.length 0 (l.length + 1) (by omega) (by omega), decide_eq_false hl]
    rfl
theorem large_fit {l : List Change} {m : Nat} (h : large l m = false) : l.length ≤ m ∧ ∀ x ∈ l, x.entry.big = false := by
  unfold large at h
  simp only [Bool.or_eq_false_iff, decide_eq_false_iff_not, List.any_eq_false, Bool.not_eq_true] at h
  exact ⟨by omega, h.2⟩
/-- A batch. -/
def batch (l : List Change) : Bool := l.all Change.ok && (decide (1 ≤ l.length) && decide (l.length ≤ 512))
theorem rbatch_loop {J : Jn (AEnd × H)} {k : Nat} (hJ : warrantorref27_Batch.F D k J) (l : List Change) (hl : l.length ≤ 2 ^ 50) (hf : ∀ x ∈ l, x.entry.fit) (h : H) : ∀ (d i m : Nat), i + d = l.length → d < m →
    warrantorref27_Batch.l0 J m (CL l) (.int .i64 i) h = some (.ret (.bool ((l.drop i).all Change.ok && (decide (1 ≤ l.length) && decide (l.length ≤ 512)))), h)
  | 0, i, m + 1, hi, _ => by
    rw [warrantorref27_Batch.l0_eq hJ]
    rw [show (.int .i64 1 : AV) = .int .i64 ((1 : Nat) : Int) from rfl, show (.int .i64 512 : AV) = .int .i64 ((512 : Nat) : Int) from rfl]
    simp only [CL_len, bind_some', lssN, geqN, leqN, decide_eq_false (show ¬ i < l.length by omega), condV_false, copy_bool]
    rw [List.drop_of_length_le (by omega), List.all_nil, Bool.true_and]
    cases decide (1 ≤ l.length) <;> rfl
  | d + 1, i, m + 1, hi, hm => by
    have hil : i < l.length := by omega
    have ih := rbatch_loop hJ l hl hf h d (i + 1) m (by omega) (by omega)
    rw [warrantorref27_Batch.l0_eq hJ, List.drop_eq_getElem_cons hil, List.all_cons]
    simp only [CL_len, bind_some', lssN, decide_eq_true hil, condV_true, CL_at hil, ldAgg_rptr, Change.agg, canon_agg, Change.c_canon, rCheck_den l[i] (hf _ (List.getElem_mem hil)), retOr_ret, not_bool, add1 i (by omega), ih]
    cases l[i].ok <;> rfl
theorem rbatch_den (l : List Change) (hl : l.length ≤ 2 ^ 50) (hf : ∀ x ∈ l, x.entry.fit) (h : H) : D n_warrantorref27_Batch [CL l] h = some (.ret (.bool (batch l)), h) := by
  refine warrantorref27_Batch.den (l.length + 1) (by simp) (h' := []) ?_ rfl rfl
  rw [warrantorref27_Batch.f_eq (warrantorref27_Batch.fx _)]
  exact rbatch_loop (warrantorref27_Batch.fx _) l hl hf [] l.length 0 (l.length + 1) (by omega) (by omega)
theorem rsame_loop {J : Jn (AEnd × H)} {k : Nat} (hJ : warrantorref27_Same.F D k J) (l l' : List Change) (he : l.length = l'.length) (hl : l.length ≤ 2 ^ 50) (h : H) : ∀ (d i m : Nat), i + d = l.length → d < m →
    warrantorref27_Same.l0 J m (CL l) (CL l') (.int .i64 i) h = some (.ret (.bool (decide (l.drop i = l'.drop i))), h)
  | 0, i, m + 1, hi, _ => by
    rw [warrantorref27_Same.l0_eq hJ]
    simp only [CL_len, bind_some', lssN, decide_eq_false (show ¬ i < l.length by omega), condV_false]
    rw [List.drop_of_length_le (by omega), List.drop_of_length_le (by omega)]
    rfl
  | d + 1, i, m + 1, hi, hm => by
    have hil : i < l.length := by omega
    have hil' : i < l'.length := by omega
    have ih := rsame_loop hJ l l' he hl h d (i + 1) m (by omega) (by omega)
    rw [warrantorref27_Same.l0_eq hJ, List.drop_eq_getElem_cons hil, List.drop_eq_getElem_cons hil']
    simp only [CL_len, bind_some', lssN, decide_eq_true hil, condV_true, CL_at hil, CL_at hil', ldAgg_rptr, Change.agg, change_eq, eqv_t, add1 i (by omega), ih, List.cons.injEq]
    by_cases hx : l[i] = l'[i]
    · simp only [decide_eq_true hx, Bool.not_true, condV_false]
      rw [decide_eq_decide.2 (show (l.drop (i + 1) = l'.drop (i + 1) ↔ l[i] = l'[i] ∧ l.drop (i + 1) = l'.drop (i + 1)) from ⟨fun h => ⟨hx, h⟩, fun h => h.2⟩)]
    · simp only [decide_eq_false hx, Bool.not_false, condV_true]
      rw [decide_eq_false (fun h => hx h.1)]
theorem rsame_den (l l' : List Change) (hl : l.length ≤ 2 ^ 50) (h : H) : D n_warrantorref27_Same [CL l, CL l'] h = some (.ret (.bool (decide (l = l'))), h) := by
  refine warrantorref27_Same.den (l.length + 1) (by simp) (h' := []) ?_ rfl rfl
  rw [warrantorref27_Same.f_eq (warrantorref27_Same.fx _)]
  simp only [CL_len, bind_some', neqN]
  by_cases he : l.length = l'.length
  · simp only [decide_eq_true he, Bool.not_true, condV_false]
    exact rsame_loop (warrantorref27_Same.fx _) l l' he hl [] l.length 0 (l.length + 1) (by omega) (by omega)
  · simp only [decide_eq_false he, Bool.not_false, condV_true]
    rw [decide_eq_false (fun h => he (by rw [h]))]
theorem equal_loop {J : Jn (AEnd × H)} {k : Nat} (hJ : slices_Equal_api_Change_api_Change.F D k J) (l l' : List Change) (he : l.length = l'.length) (hl : l.length ≤ 2 ^ 50) (h : H) : ∀ (d i m : Nat), i + d = l.length → d < m →
    slices_Equal_api_Change_api_Change.l0 J m (CL l) (CL l') (.int .i64 l.length) (.int .i64 i) h = some (.ret (.bool (decide (l.drop i = l'.drop i))), h)
  | 0, i, m + 1, hi, _ => by
    rw [slices_Equal_api_Change_api_Change.l0_eq hJ]
    simp only [CL_len, bind_some', lssN, decide_eq_false (show ¬ i < l.length by omega), condV_false]
    rw [List.drop_of_length_le (by omega), List.drop_of_length_le (by omega)]
    rfl
  | d + 1, i, m + 1, hi, hm => by
    have hil : i < l.length := by omega
    have hil' : i < l'.length := by omega
    have ih := equal_loop hJ l l' he hl h d (i + 1) m (by omega) (by omega)
    rw [slices_Equal_api_Change_api_Change.l0_eq hJ, List.drop_eq_getElem_cons hil, List.drop_eq_getElem_cons hil']
    simp only [CL_len, bind_some', lssN, decide_eq_true hil, condV_true, CL_at hil, CL_at hil', ldAgg_rptr, Change.agg, change_eq, eqv_t, add1 i (by omega), ih, List.cons.injEq]
    by_cases hx : l[i] = l'[i]
    · simp only [decide_eq_true hx, Bool.not_true, condV_false]
      rw [decide_eq_decide.2 (show (l.drop (i + 1) = l'.drop (i + 1) ↔ l[i] = l'[i] ∧ l.drop (i + 1) = l'.drop (i + 1)) from ⟨fun h => ⟨hx, h⟩, fun h => h.2⟩)]
    · simp only [decide_eq_false hx, Bool.not_false, condV_true]
      rw [decide_eq_false (fun h => hx h.1)]
theorem equal_den (l l' : List Change) (hl : l.length ≤ 2 ^ 50) (h : H) : D n_slices_Equal_api_Change_api_Change [CL l, CL l'] h = some (.ret (.bool (decide (l = l'))), h) := by
  refine slices_Equal_api_Change_api_Change.den (l.length + 1) (by simp) (h' := []) ?_ rfl rfl
  rw [slices_Equal_api_Change_api_Change.f_eq (slices_Equal_api_Change_api_Change.fx _)]
  simp only [CL_len, bind_some', neqN]
  by_cases he : l.length = l'.length
  · simp only [decide_eq_true he, Bool.not_true, condV_false]
    exact equal_loop (slices_Equal_api_Change_api_Change.fx _) l l' he hl [] l.length 0 (l.length + 1) (by omega) (by omega)
  · simp only [decide_eq_false he, Bool.not_false, condV_true]
    rw [decide_eq_false (fun h => he (by rw [h]))]
theorem same_den (l l' : List Change) (hl : l.length ≤ 2 ^ 50) (h : H) : D n_rec_Same [CL l, CL l'] h = some (.ret (.bool (decide (l = l'))), h) := by
  refine rec_Same.den 1 (by simp) (h' := []) ?_ rfl rfl
  rw [rec_Same.f_eq (rec_Same.fx _)]
  simp only [canon_list, equal_den l l' hl, bind_some', retOr_ret]
end Go.Proofs.YtdlnkfghgbddhaaGreat
