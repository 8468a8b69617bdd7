/- What the functions of the records' layer come to: 15: alarms and entries that may be. -/
import Derived.Test.YtdlnkfghgbddhaaGreatPJS14
set_option linter.all false

open Go Go.Ve Go.Proofs
namespace Go.Proofs.YtdlnkfghgbddhaaGreat
set_option maxRecDepth 100000
set_option linter.all false

/-- A program of one spot, as its cells. -/
def progC (a : Alarm) : List AV := [.str a.func, .list [] .no, .list [spotC a] .no, .list [] .no]
theorem fits_den (a : Alarm) (h : H) : D n_prog_Check [.agg (progC a)] h = some (.ret (.int .i64 (if spotOk a then 0 else 110)), h) := by
  have g : ∀ z, ([AObj.arr (progC a) false, AObj.arr [.int .i64 z] false] : H)[0]? = some (.arr (progC a) false) := fun z => rfl
  have g1 : ([AObj.arr (progC a) false, AObj.arr [.int .i64 1] false] : H)[1]? = some (.arr [.int .i64 1] false) := rfl
  have g0 : ([AObj.arr (progC a) false] : H)[0]? = some (.arr (progC a) false) := rfl
  have c0 : (progC a)[0 + 0]? = some (.str a.func) := rfl
  have c1 : (progC a)[0 + 1]? = some (.list [] .no) := rfl
  have c2 : (progC a)[0 + 2]? = some (.list [spotC a] .no) := rfl
  have c3 : (progC a)[0 + 3]? = some (.list [] .no) := rfl
  have st : stN 1 ([AObj.arr (progC a) false] ++ [AObj.arr [.int .i64 0] false] : H) (.ptr 1 0) (.int .i64 1) = some (.undef, [AObj.arr (progC a) false, AObj.arr [.int .i64 1] false]) := rfl
  have key : prog_Check.f (prog_Check.JD 1) (.agg (progC a)) [] = some (.ret (.int .i64 (if spotOk a then 0 else 110)), [AObj.arr (progC a) false, AObj.arr [.int .i64 1] false]) := by
    have ej2 : ∀ b, prog_Check.j2 (prog_Check.JD 1) (.bool b) [AObj.arr (progC a) false, AObj.arr [.int .i64 1] false] = some (.ret (.int .i64 (if b then 110 else 0)), [AObj.arr (progC a) false, AObj.arr [.int .i64 1] false]) := by
      intro b
      rw [prog_Check.j2_eq (prog_Check.fx 1)]
      cases b <;> rfl
    have ej : ∀ b f cap, prog_Check.j1 (prog_Check.JD 1) (.ptr 0 0) (.func (.func f) [] cap) (.bool b) [AObj.arr (progC a) false, AObj.arr [.int .i64 1] false] = some (.ret (.int .i64 (if b || !spotOk a then 110 else 0)), [AObj.arr (progC a) false, AObj.arr [.int .i64 1] false]) := by
      intro b f cap
      rw [prog_Check.j1_eq (prog_Check.fx 1)]
      cases b with
      | true => rfl
      | false =>
        rw [condV_false, prog_Check.j0_eq (prog_Check.fx 1)]
        simp only [fAddr_ptr, bind_some', ld_at (g 1), c2, c3, canon_list, canon_fn, spots_den, edges_den, retOr_ret, ej2, Bool.false_or]
        cases spotOk a <;> rfl
    have l0 : lnSl (.list [] .no) = some (.int .i64 0) := rfl
    rw [prog_Check.f_eq (prog_Check.fx 1)]
    rw [show AV.copy (.agg (progC a)) = .agg (progC a) from rfl, bx_agg (cs := progC a) rfl]
    simp only [bind_some', List.length_nil, List.nil_append, List.length_singleton, fAddr_ptr, ld_at g0, c2, copy_int]
    rw [show lnSl (.list [spotC a] .no) = some (.int .i64 1) from rfl]
    simp only [bind_some', copy_int, st, ld_at (g 1), ld_at g1, c0, c1, c3, canon_str, canon_list, pname_den, vars_den, retOr_ret, not_bool, ej, Bool.true_or]
    rw [show ([AV.int .i64 1])[0]? = some (.int .i64 1) from rfl]
    simp only [bind_some', l0, canon_int, fAddr_ptr, ld_at (g 1), c3, one_den, retOr_ret, not_bool, bin_gtr]
    rw [show (decide ((1 : Int) ≤ 1) && decide ((1 : Int) ≤ 128)) = true from rfl, show decide ((0 : Int) > 256) = false from rfl]
    simp only [Bool.not_true, condV_false, ej, Bool.false_or]
    unfold spotOk
    cases namS morB 32 a.func with
    | true =>
      simp only [Bool.not_true, condV_false, Bool.true_and]
      cases namS patB 64 a.file && (decide (1 ≤ a.line) && decide (a.line ≤ 1048576)) <;> rfl
    | false => rfl
  have := prog_Check.den 1 (h := h) (by rfl) key rfl rfl
  exact this
theorem alarm_den (a : Alarm) (h : H) : D n_alarm_Check [.agg a.c] h = some (.ret (.int .i64 (if a.ok then 0 else 170)), h) := by
  have g0 : ([AObj.arr a.c false] : H)[0]? = some (.arr a.c false) := rfl
  obtain ⟨pc, hpc⟩ : ∃ pc : List AV, pc = [.str a.func, .list [] .cap, .list [spotC a] .cap, .list [] .cap] := ⟨_, rfl⟩
  have g1 : ([AObj.arr a.c false, AObj.arr pc false] : H)[0]? = some (.arr a.c false) := rfl
  have g2 : ([AObj.arr a.c false, AObj.arr pc false] : H)[1]? = some (.arr pc false) := rfl
  have st : stN 4 ([AObj.arr a.c false] ++ [AObj.arr [.str [], .list [] .cap, .list [] .cap, .list [] .cap] false] : H) (.ptr 1 0) (.agg pc) = some (.undef, [AObj.arr a.c false, AObj.arr pc false]) := by rw [hpc]; rfl
  have pa : aggAt 4 pc 0 = some (.agg pc) := by rw [hpc]; rfl
  have pcan : AV.canon (.agg pc) = .agg (progC a) := by rw [hpc]; rfl
  have key : alarm_Check.f (alarm_Check.JD 1) (.agg a.c) [] = some (.ret (.int .i64 (if a.ok then 0 else 170)), [AObj.arr a.c false, AObj.arr pc false]) := by
    have ej2 : ∀ b, alarm_Check.j2 (alarm_Check.JD 1) (.bool b) [AObj.arr a.c false, AObj.arr pc false] = some (.ret (.int .i64 (if b then 170 else 0)), [AObj.arr a.c false, AObj.arr pc false]) := by
      intro b
      rw [alarm_Check.j2_eq (alarm_Check.fx 1)]
      cases b <;> rfl
    have ej1 : ∀ x y, alarm_Check.j1 (alarm_Check.JD 1) (.ptr 0 0) (.bool x) (.bool y) [AObj.arr a.c false] = some (.ret (.int .i64 (if x && (y && (exprS a.expr && spotOk a)) then 0 else 170)), [AObj.arr a.c false, AObj.arr pc false]) := by
      intro x y
      rw [alarm_Check.j1_eq (alarm_Check.fx 1)]
      simp only [bind_some', List.length_cons, List.length_nil, Nat.zero_add, fAddr_ptr, ld_at g0, a.a2, a.a3, a.a4, copy_str, copy_int]
      rw [show mkAgg [.str [], .str [], .int .i64 0] [(0, 1, .str a.func), (1, 1, .str a.file), (2, 1, .int .i64 a.line)] = some (.agg (spotC a)) from rfl]
      simp only [bind_some']
      rw [show mkRows 3 [.str [], .str [], .int .i64 0] 1 [(0, .agg (spotC a))] = some (.list [spotC a] .cap) from rfl]
      simp only [bind_some', copy_cap]
      rw [show mkAgg [.str [], .list [] .cap, .list [] .cap, .list [] .cap] [(0, 1, .str a.func), (2, 1, .list [spotC a] .cap)] = some (.agg pc) by rw [hpc]; rfl]
      simp only [bind_some', st, not_bool, ej2, ld_at g1, a.a5, canon_str, expr_den, retOr_ret, ldA_at g2, pa, pcan, fits_den, bin_neq]
      cases x <;> cases y <;> cases exprS a.expr <;> cases spotOk a <;> rfl
    have ej0 : ∀ x, alarm_Check.j0 (alarm_Check.JD 1) (.ptr 0 0) (.bool x) [AObj.arr a.c false] = some (.ret (.int .i64 (if x && ((decide (1 ≤ a.sev) && decide (a.sev ≤ 2)) && (exprS a.expr && spotOk a)) then 0 else 170)), [AObj.arr a.c false, AObj.arr pc false]) := by
      intro x
      rw [alarm_Check.j0_eq (alarm_Check.fx 1)]
      simp only [bind_some', fAddr_ptr, ld_at g0, a.a1, geqF, bin_leq, ej1]
      cases decide (1 ≤ a.sev) <;> rfl
    rw [alarm_Check.f_eq (alarm_Check.fx 1)]
    rw [copy_agg, Alarm.c_copy, bx_agg a.c_one]
    simp only [bind_some', List.length_nil, List.nil_append, fAddr_ptr, ld_at g0, a.a0, geqF, bin_leq, ej0]
    have e : a.ok = ((decide (1 ≤ a.kind) && decide (a.kind ≤ 3)) && ((decide (1 ≤ a.sev) && decide (a.sev ≤ 2)) && (exprS a.expr && spotOk a))) := by
      unfold Alarm.ok spotOk
      cases namS morB 32 a.func <;> cases namS patB 64 a.file <;> cases exprS a.expr <;> simp
    rw [e]
    cases decide (1 ≤ a.kind) <;> rfl
  exact alarm_Check.den 1 (by simp [pureL, AV.pure]) key rfl rfl
theorem recnote_den (s : List UInt8) (h : H) : D n_rec_note [.str s] h = some (.ret (.bool (noteS s)), h) := by
  have eb : ∀ h, D n_result_Base [.list [[.int .u64 0, .str s]] .no] h = some (.ret (.int .i64 (if noteS s then 0 else 210)), h) := by
    intro h
    have g : ([AObj.arr [.int .u64 0, .str s] false] : H)[0]? = some (.arr [.int .u64 0, .str s] false) := rfl
    have st : stN 2 ([AObj.arr [.int .u64 0, .str []] false] : H) (.ptr 0 0) (.agg [.int .u64 0, .str s]) = some (.undef, [AObj.arr [.int .u64 0, .str s] false]) := rfl
    refine result_Base.den 3 (by rfl) (h' := [AObj.arr [.int .u64 0, .str s] false]) ?_ rfl rfl
    rw [result_Base.f_eq (result_Base.fx _)]
    rw [show lnSl (.list [[.int .u64 0, .str s]] .no) = some (.int .i64 1) from rfl]
    simp only [bind_some']
    rw [show bin .gtr (.int .i64 1) (.int .i64 1024) = some (.bool false) from rfl]
    simp only [bind_some', condV_false]
    rw [result_Base.l0_eq (result_Base.fx _)]
    rw [show bin .lss (.int .i64 0) (.int .i64 1) = some (.bool true) from rfl]
    simp only [bind_some', condV_true]
    rw [show ixSlice 2 (.list [[.int .u64 0, .str s]] .no) (.int .i64 0) = some (.rptr [.int .u64 0, .str s] 0) from rfl]
    simp only [bind_some', ldAgg_rptr]
    rw [show aggAt 2 [.int .u64 0, .str s] 0 = some (.agg [.int .u64 0, .str s]) from rfl]
    simp only [bind_some', List.length_nil, List.nil_append]
    rw [show AV.copy (.agg [.int .u64 0, .str s]) = .agg [.int .u64 0, .str s] from rfl]
    simp only [st, bind_some', fAddr_ptr, ld_at g]
    rw [show ([AV.int .u64 0, .str s])[0 + 1]? = some (.str s) from rfl]
    simp only [bind_some', canon_str, note_den, retOr_ret, not_bool]
    rw [show bin .gtr (.int .i64 0) (.int .i64 0) = some (.bool false) from rfl]
    simp only [bind_some', condV_false]
    rw [result_Base.j0_eq (result_Base.fx _), result_Base.j0_eq (result_Base.fx _)]
    cases noteS s with
    | false => rfl
    | true =>
      simp only [Bool.not_true, condV_false]
      rw [show bin .add (.int .i64 0) (.int .i64 1) = some (.int .i64 1) from rfl]
      simp only [bind_some']
      rw [result_Base.l0_eq (result_Base.fx _)]
      rw [show bin .lss (.int .i64 1) (.int .i64 1) = some (.bool false) from rfl]
      rfl
  refine rec_note.den 1 (by rfl) (h' := []) ?_ rfl rfl
  rw [rec_note.f_eq (rec_note.fx _)]
  rw [copy_str, show mkAgg [.int .u64 0, .str []] [(1, 1, .str s)] = some (.agg [.int .u64 0, .str s]) from rfl]
  simp only [bind_some']
  rw [show mkRows 2 [.int .u64 0, .str []] 1 [(0, .agg [.int .u64 0, .str s])] = some (.list [[.int .u64 0, .str s]] .cap) from rfl]
  simp only [bind_some', canon_list, eb, retOr_ret, bin_eql, copy_bool]
  cases noteS s <;> rfl
theorem right_den (e : Entry) (h : H) : D n_rec_Right [.agg e.c] h = some (.ret (.bool e.ok), h) := by
  refine rec_Right.den 1 (by simp [pureL, AV.pure]) (h' := [.arr e.c false]) ?_ rfl rfl
  have g : ([AObj.arr e.c false] : H)[0]? = some (.arr e.c false) := rfl
  have ej1 : ∀ x y, rec_Right.j1 (rec_Right.JD 1) (.ptr 0 0) (.bool x) (.bool y) [.arr e.c false] = some (.ret (.bool (e.alarm.ok && (x && (y && (noteS e.note && (decide (e.state = 3) || decide (e.note = []))))))), [.arr e.c false]) := by
    intro x y
    rw [rec_Right.j1_eq (rec_Right.fx 1)]
    simp only [fAddr_ptr, bind_some', ldA_at g, ld_at g, e.alarmAt, e.c7, e.c9, canon_agg, Alarm.c_canon, alarm_den, retOr_ret, bin_eql, canon_str, recnote_den, bin_str, strBin_eql, copy_bool]
    cases e.alarm.ok <;> cases x <;> cases y <;> cases noteS e.note <;> cases decide (e.state = 3) <;> rfl
  have ej0 : ∀ x, rec_Right.j0 (rec_Right.JD 1) (.ptr 0 0) (.bool x) [.arr e.c false] = some (.ret (.bool (e.alarm.ok && (x && ((decide (1 ≤ e.count) && decide (e.count ≤ 1048576)) && (noteS e.note && (decide (e.state = 3) || decide (e.note = []))))))), [.arr e.c false]) := by
    intro x
    rw [rec_Right.j0_eq (rec_Right.fx 1)]
    simp only [fAddr_ptr, bind_some', ld_at g, e.c8, geqF, bin_leq, ej1]
    cases decide (1 ≤ e.count) <;> rfl
  rw [rec_Right.f_eq (rec_Right.fx 1)]
  rw [copy_agg, Entry.c_copy, bx_agg e.c_one]
  simp only [bind_some', List.length_nil, List.nil_append, fAddr_ptr, ld_at g, e.c7, geqF, bin_leq, ej0]
  unfold Entry.ok
  cases decide (1 ≤ e.state) <;> rfl
end Go.Proofs.YtdlnkfghgbddhaaGreat
