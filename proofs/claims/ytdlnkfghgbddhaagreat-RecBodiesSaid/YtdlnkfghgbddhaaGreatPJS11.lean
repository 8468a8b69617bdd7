/- What the functions of the records' layer come to: 11: the document's checks of entries and changes. -/
import Derived.Test.YtdlnkfghgbddhaaGreatPJS10
set_option linter.all false

open Go Go.Ve Go.Proofs
namespace Go.Proofs.YtdlnkfghgbddhaaGreat
set_option maxRecDepth 100000
set_option linter.all false

def Alarm.fit (a : Alarm) : Prop := a.func.length ≤ 2 ^ 50 ∧ a.file.length ≤ 2 ^ 50 ∧ a.expr.length ≤ 2 ^ 50
def Entry.fit (e : Entry) : Prop := e.alarm.fit ∧ e.note.length ≤ 2 ^ 50
theorem Alarm.fit_of {a : Alarm} (h : a.big = false) : a.fit := by
  unfold Alarm.big at h
  simp only [Bool.or_eq_false_iff, decide_eq_false_iff_not] at h
  exact ⟨by omega, by omega, by omega⟩
theorem Entry.fit_of {e : Entry} (h : e.big = false) : e.fit := by
  unfold Entry.big at h
  simp only [Bool.or_eq_false_iff, decide_eq_false_iff_not] at h
  exact ⟨Alarm.fit_of h.1, by omega⟩
theorem lssF {k : IntKind} (a b : Int) : bin .lss (.int k a) (.int k b) = some (.bool (!decide (b ≤ a))) := by
  rw [bin_lss, ← decide_not]; exact congrArg (fun b => some (AV.bool b)) (decide_eq_decide.2 (by omega))
theorem gtrF {k : IntKind} (a b : Int) : bin .gtr (.int k a) (.int k b) = some (.bool (!decide (a ≤ b))) := by
  rw [bin_gtr, ← decide_not]; exact congrArg (fun b => some (AV.bool b)) (decide_eq_decide.2 (by omega))
theorem geqF {k : IntKind} (a b : Int) : bin .geq (.int k a) (.int k b) = some (.bool (decide (b ≤ a))) := bin_geq
theorem Alarm.a0 (a : Alarm) : a.c[0 + 0]? = some (.int .i64 a.kind) := rfl
theorem Alarm.a1 (a : Alarm) : a.c[0 + 1]? = some (.int .i64 a.sev) := rfl
theorem Alarm.a2 (a : Alarm) : a.c[0 + 2]? = some (.str a.func) := rfl
theorem Alarm.a3 (a : Alarm) : a.c[0 + 3]? = some (.str a.file) := rfl
theorem Alarm.a4 (a : Alarm) : a.c[0 + 4]? = some (.int .i64 a.line) := rfl
theorem Alarm.a5 (a : Alarm) : a.c[0 + 5]? = some (.str a.expr) := rfl
theorem rAlarm_den (a : Alarm) (ha : a.fit) (h : H) : D n_warrantorref17_Check [.agg a.c] h = some (.ret (.bool a.ok), h) := by
  refine warrantorref17_Check.den 1 (by simp [pureL, AV.pure]) (h' := [.arr a.c false]) ?_ rfl rfl
  rw [warrantorref17_Check.f_eq (warrantorref17_Check.fx 1)]
  rw [copy_agg, Alarm.c_copy, bx_agg a.c_one]
  have g : ([AObj.arr a.c false] : H)[0]? = some (.arr a.c false) := rfl
  have ej : ∀ b, warrantorref17_Check.j1 (warrantorref17_Check.JD 1) (.ptr 0 0) (.bool b) [.arr a.c false] = some (.ret (.bool (!b && (namS morB 32 a.func && (namS patB 64 a.file && exprS a.expr)))), [.arr a.c false]) := by
    intro b
    rw [warrantorref17_Check.j1_eq (warrantorref17_Check.fx 1)]
    cases b with
    | true => rfl
    | false =>
      rw [condV_false, warrantorref17_Check.j0_eq (warrantorref17_Check.fx 1)]
      simp only [fAddr_ptr, bind_some', ld_at g, a.a2, a.a3, a.a5, canon_str, rname_den _ ha.1, rfile_den _ ha.2.1, rexpr_den _ ha.2.2, retOr_ret, copy_bool]
      cases namS morB 32 a.func <;> cases namS patB 64 a.file <;> rfl
  simp only [bind_some', List.length_nil, List.nil_append, fAddr_ptr, ld_at g, a.a0, a.a1, a.a4, lssF, gtrF, ej]
  unfold Alarm.ok
  cases decide (1 ≤ a.kind) <;> cases decide (a.kind ≤ 3) <;> cases decide (1 ≤ a.sev) <;> cases decide (a.sev ≤ 2) <;> cases decide (1 ≤ a.line) <;> cases decide (a.line ≤ 1048576) <;> rfl
theorem rRight_den (e : Entry) (he : e.fit) (h : H) : D n_warrantorref27_Right [.agg e.c] h = some (.ret (.bool e.ok), h) := by
  refine warrantorref27_Right.den 1 (by simp [pureL, AV.pure]) (h' := [.arr e.c false]) ?_ rfl rfl
  rw [warrantorref27_Right.f_eq (warrantorref27_Right.fx 1)]
  rw [copy_agg, Entry.c_copy, bx_agg e.c_one]
  have g : ([AObj.arr e.c false] : H)[0]? = some (.arr e.c false) := rfl
  have ej : ∀ b, warrantorref27_Right.j1 (warrantorref27_Right.JD 1) (.ptr 0 0) (.bool b) [.arr e.c false] = some (.ret (.bool (!b && (decide (e.state = 3) || decide (e.note = [])))), [.arr e.c false]) := by
    intro b
    rw [warrantorref27_Right.j1_eq (warrantorref27_Right.fx 1)]
    cases b with
    | true => rfl
    | false =>
      rw [condV_false, warrantorref27_Right.j0_eq (warrantorref27_Right.fx 1)]
      simp only [fAddr_ptr, bind_some', ld_at g, e.c7, e.c9, bin_eql, bin_str, strBin_eql, copy_bool]
      cases decide (e.state = 3) <;> rfl
  simp only [bind_some', List.length_nil, List.nil_append, fAddr_ptr, ldA_at g, e.alarmAt, ld_at g, e.c7, e.c8, e.c9, canon_agg, Alarm.c_canon, rAlarm_den _ he.1, retOr_ret, not_bool, lssF, gtrF, ej, canon_str, rnote_den _ he.2]
  unfold Entry.ok
  cases e.alarm.ok <;> cases decide (1 ≤ e.state) <;> cases decide (e.state ≤ 3) <;> cases decide (1 ≤ e.count) <;> cases decide (e.count ≤ 1048576) <;> cases noteS e.note <;> rfl
/-- What a change uses of an entry. -/
def uses (k : Int) (e : Entry) : Entry :=
  if k = 1 then ⟨e.finger, e.alarm, 0, 0, []⟩ else if k = 2 then ⟨e.finger, .none, 0, 0, e.note⟩ else if k = 3 ∨ k = 4 then ⟨e.finger, .none, 0, 0, []⟩ else e
theorem rUses_den (k : Int) (e : Entry) (h : H) : D n_warrantorref27_Uses [.int .i64 k, .agg e.c] h = some (.ret (.agg (uses k e).c), h) := by
  have g0 : ([AObj.arr e.c false] ++ [AObj.arr [.int .u64 0, .int .i64 0, .int .i64 0, .str [], .str [], .int .i64 0, .str [], .int .i64 0, .int .i64 0, .str []] false] : H)[0]? = some (.arr e.c false) := rfl
  have st (x : Entry) : stN 10 ([AObj.arr e.c false] ++ [AObj.arr [.int .u64 0, .int .i64 0, .int .i64 0, .str [], .str [], .int .i64 0, .str [], .int .i64 0, .int .i64 0, .str []] false] : H) (.ptr 1 0) (.agg x.c) = some (.undef, [AObj.arr e.c false, AObj.arr x.c false]) := rfl
  have ld (x : Entry) : ldAgg 10 ([AObj.arr e.c false, AObj.arr x.c false] : H) (.ptr 1 0) = some (.agg x.c) := rfl
  have key : warrantorref27_Uses.f (warrantorref27_Uses.JD 1) (.int .i64 k) (.agg e.c) [] = some (.ret (.agg (uses k e).c), [AObj.arr e.c false, AObj.arr (uses k e).c false]) := by
    have ej : ∀ b, warrantorref27_Uses.j0 (warrantorref27_Uses.JD 1) (.ptr 0 0) (.ptr 1 0) (.bool b) ([AObj.arr e.c false] ++ [AObj.arr [.int .u64 0, .int .i64 0, .int .i64 0, .str [], .str [], .int .i64 0, .str [], .int .i64 0, .int .i64 0, .str []] false] : H) = some (.ret (.agg (if b then (⟨e.finger, .none, 0, 0, []⟩ : Entry) else e).c), [AObj.arr e.c false, AObj.arr (if b then (⟨e.finger, .none, 0, 0, []⟩ : Entry) else e).c false]) := by
      intro b
      rw [warrantorref27_Uses.j0_eq (warrantorref27_Uses.fx 1)]
      cases b with
      | true =>
        rw [condV_true]
        simp only [fAddr_ptr, bind_some', ld_at g0, e.c0, copy_int]
        rw [show mkAgg [.int .u64 0, .int .i64 0, .int .i64 0, .str [], .str [], .int .i64 0, .str [], .int .i64 0, .int .i64 0, .str []] [(0, 1, .int .u64 (e.finger.val : Int))] = some (.agg (⟨e.finger, .none, 0, 0, []⟩ : Entry).c) from rfl]
        simp only [bind_some', st, ld, if_true]
        rfl
      | false =>
        rw [condV_false]
        rw [show ldAgg 10 ([AObj.arr e.c false] ++ [AObj.arr [.int .u64 0, .int .i64 0, .int .i64 0, .str [], .str [], .int .i64 0, .str [], .int .i64 0, .int .i64 0, .str []] false] : H) (.ptr 0 0) = some (.agg e.c) from rfl]
        simp only [bind_some', copy_agg, Entry.c_copy, st, ld]
        rfl
    rw [warrantorref27_Uses.f_eq (warrantorref27_Uses.fx 1)]
    rw [copy_agg, Entry.c_copy, bx_agg e.c_one]
    simp only [bind_some', List.length_nil, List.nil_append, List.length_cons, Nat.zero_add]
    simp only [fAddr_ptr, bind_some', bin_eql, ej]
    unfold uses
    by_cases h1 : k = 1
    · simp only [if_pos h1, decide_eq_true h1, condV_true, ld_at g0, e.c0, ldA_at g0, e.alarmAt, bind_some', copy_int, copy_agg, Alarm.c_copy]
      rw [show mkAgg [.int .u64 0, .int .i64 0, .int .i64 0, .str [], .str [], .int .i64 0, .str [], .int .i64 0, .int .i64 0, .str []] [(0, 1, .int .u64 (e.finger.val : Int)), (1, 6, .agg e.alarm.c)] = some (.agg (⟨e.finger, e.alarm, 0, 0, []⟩ : Entry).c) from rfl]
      simp only [bind_some', st, ld]
      rfl
    · simp only [if_neg h1, decide_eq_false h1, condV_false]
      by_cases h2 : k = 2
      · simp only [if_pos h2, decide_eq_true h2, condV_true, ld_at g0, e.c0, e.c9, bind_some', copy_int, copy_str]
        rw [show mkAgg [.int .u64 0, .int .i64 0, .int .i64 0, .str [], .str [], .int .i64 0, .str [], .int .i64 0, .int .i64 0, .str []] [(0, 1, .int .u64 (e.finger.val : Int)), (9, 1, .str e.note)] = some (.agg (⟨e.finger, .none, 0, 0, e.note⟩ : Entry).c) from rfl]
        simp only [bind_some', st, ld]
        rfl
      · simp only [if_neg h2, decide_eq_false h2, condV_false]
        by_cases h3 : k = 3
        · simp only [if_pos (Or.inl h3), decide_eq_true h3, condV_true, if_true]
        · by_cases h4 : k = 4
          · simp only [if_pos (Or.inr h4), decide_eq_false h3, decide_eq_true h4, condV_false, if_true]
          · simp only [if_neg (show ¬ (k = 3 ∨ k = 4) by omega), decide_eq_false h3, decide_eq_false h4, condV_false, Bool.false_eq_true, if_false]
  exact warrantorref27_Uses.den 1 (by simp [pureL, AV.pure]) key (by simp [AV.pure]) rfl
theorem eqv_t (b : Bool) : eqv true (some b) = some (.bool (!b)) := by cases b <;> rfl
theorem eqv_f (b : Bool) : eqv false (some b) = some (.bool b) := by cases b <;> rfl
theorem rCheck_den (x : Change) (hx : x.entry.fit) (h : H) : D n_warrantorref27_Check [.agg x.c] h = some (.ret (.bool x.ok), h) := by
  refine warrantorref27_Check.den 1 (by simp [pureL, AV.pure]) (h' := [.arr x.c false]) ?_ rfl rfl
  rw [warrantorref27_Check.f_eq (warrantorref27_Check.fx 1)]
  rw [copy_agg, Change.c_copy, bx_agg x.c_one]
  have g : ([AObj.arr x.c false] : H)[0]? = some (.arr x.c false) := rfl
  have a6 : aggAt 6 x.c (0 + 1 + 1) = some (.agg x.entry.alarm.c) := rfl
  have c9 : x.c[0 + 1 + 9]? = some (.str x.entry.note) := rfl
  have ej : ∀ b, warrantorref27_Check.j0 (warrantorref27_Check.JD 1) (.ptr 0 0) (.int .i64 x.kind) (.bool b) [.arr x.c false] = some (.ret (.bool (if b then true else if x.kind = 5 then x.entry.ok else false)), [.arr x.c false]) := by
    intro b
    rw [warrantorref27_Check.j0_eq (warrantorref27_Check.fx 1)]
    cases b with
    | true => rfl
    | false =>
      simp only [condV_false, bin_eql, bind_some', fAddr_ptr, ldA_at g, x.entryAt, canon_agg, Entry.c_canon, rRight_den _ hx, retOr_ret]
      by_cases h5 : x.kind = 5
      · simp only [decide_eq_true h5, condV_true, if_pos h5, Bool.false_eq_true, if_false]
      · simp only [decide_eq_false h5, condV_false, if_neg h5, Bool.false_eq_true, if_false]
  simp only [bind_some', List.length_nil, List.nil_append, fAddr_ptr, ldA_at g, ld_at g, x.entryAt, x.c0, canon_int, canon_agg, Entry.c_canon, rUses_den, retOr_ret, entry_eq, eqv_t, bin_eql, a6, c9, Alarm.c_canon, rAlarm_den _ hx.1, canon_str, rnote_den _ hx.2, ej]
  unfold Change.ok uses
  rcases x with ⟨k, f, a, s, c, n⟩
  simp only
  by_cases h1 : k = 1
  · simp only [if_pos h1, decide_eq_true h1, condV_true, Entry.mk.injEq, true_and]
    by_cases hc : s = 0 ∧ c = 0 ∧ n = []
    · simp only [decide_eq_true hc, Bool.not_true, condV_false, Bool.and_true]
    · simp only [decide_eq_false hc, Bool.not_false, condV_true, Bool.and_false]
  · simp only [if_neg h1, decide_eq_false h1, condV_false]
    by_cases h2 : k = 2
    · simp only [if_pos h2, decide_eq_true h2, condV_true, Entry.mk.injEq, true_and, and_true]
      by_cases hc : a = .none ∧ s = 0 ∧ c = 0
      · simp only [decide_eq_true hc, Bool.not_true, condV_false, Bool.and_true]
      · simp only [decide_eq_false hc, Bool.not_false, condV_true, Bool.and_false]
    · simp only [if_neg h2, decide_eq_false h2, condV_false]
      by_cases h3 : k = 3
      · simp only [if_pos (show k = 3 ∨ k = 4 from Or.inl h3), decide_eq_true h3, condV_true, Entry.mk.injEq, true_and, if_true]
        by_cases hc : a = .none ∧ s = 0 ∧ c = 0 ∧ n = []
        · simp only [decide_eq_true hc, Bool.not_true, condV_false]
        · simp only [decide_eq_false hc, Bool.not_false, condV_true]
      · by_cases h4 : k = 4
        · simp only [if_pos (show k = 3 ∨ k = 4 from Or.inr h4), decide_eq_false h3, decide_eq_true h4, condV_false, Entry.mk.injEq, true_and, if_true]
          by_cases hc : a = .none ∧ s = 0 ∧ c = 0 ∧ n = []
          · simp only [decide_eq_true hc, Bool.not_true, condV_false]
          · simp only [decide_eq_false hc, Bool.not_false, condV_true]
        · simp only [if_neg (show ¬ (k = 3 ∨ k = 4) by omega), decide_eq_false h3, decide_eq_false h4, condV_false, Bool.false_eq_true, if_false]
          simp only [decide_true, Bool.not_true, condV_false]
end Go.Proofs.YtdlnkfghgbddhaaGreat
