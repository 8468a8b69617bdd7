import Derived.Test.YtdlnkfghgbddhaaGreatVb2
set_option linter.all false
open Go Go.Ve Go.Proofs
namespace Go.Proofs.YtdlnkfghgbddhaaGreat
set_option maxRecDepth 100000
set_option linter.all false
theorem vars_den (h : H) : D n_prog_vars [.list [] .no] h = some (.ret (.bool true), h) := den_any (by kernel_rfl) (acall_den 40 n_prog_vars [.list [] .no] [] (.ret (.bool true), []) (by kernel_rfl)) h
theorem canon_fn {f : Fn} {a b : List AV} : AV.canon (.func f a b) = .func f a b := (Eq.refl _).trans rfl
def spotC (a : Alarm) : List AV := [.str a.func, .str a.file, .int .i64 a.line]
def spotOk (a : Alarm) : Bool := namS morB 32 a.func && (namS patB 64 a.file && (decide (1 ≤ a.line) && decide (a.line ≤ 1048576)))
theorem one_den (x n : Int) (h : H) : D n_prog_one [.int .i64 x, .int .i64 n] h = some (.ret (.bool (decide (1 ≤ x) && decide (x ≤ n))), h) := by
  refine prog_one.den 0 rfl (h' := []) ?_ rfl rfl
  rw [prog_one.f_eq (prog_one.fx _)]
  simp only [geqF, bin_leq, bind_some', copy_bool]
  cases decide (1 ≤ x) <;> rfl
theorem spot_den (a : Alarm) (h : H) : D n_prog_spot [.agg (spotC a)] h = some (.ret (.bool (spotOk a)), h) := by
  refine prog_spot.den 0 rfl (h' := [.arr (spotC a) false]) ?_ rfl rfl
  rw [prog_spot.f_eq (prog_spot.fx _)]
  have g : ([AObj.arr (spotC a) false] : H)[0]? = some (.arr (spotC a) false) := rfl
  have c0 : (spotC a)[0 + 0]? = some (.str a.func) := rfl
  have c1 : (spotC a)[0 + 1]? = some (.str a.file) := rfl
  have c2 : (spotC a)[0 + 2]? = some (.int .i64 a.line) := rfl
  rw [show AV.copy (.agg (spotC a)) = .agg (spotC a) from rfl, bx_agg (cs := spotC a) rfl]
  simp only [bind_some', List.length_nil, List.nil_append, fAddr_ptr, ld_at g, c0, c1, c2, canon_str, canon_int, canon_func, pname_den, pfile_den, one_den, retOr_ret, copy_bool]
  unfold spotOk
  cases namS morB 32 a.func <;> cases namS patB 64 a.file <;> rfl
theorem c2_den (a : Alarm) (h : H) : callVal D h (.func (.func n_prog_Check_c2) [] []) [.agg (spotC a)] = some (.ret (.bool (!spotOk a)), h) := by
  refine prog_Check_c2.den 0 rfl (h' := [.arr (spotC a) false]) ?_ rfl rfl
  rw [prog_Check_c2.f_eq (prog_Check_c2.fx _)]
  have g : ([AObj.arr (spotC a) false] : H)[0]? = some (.arr (spotC a) false) := rfl
  have c0 : aggAt 3 (spotC a) 0 = some (.agg (spotC a)) := rfl
  rw [show AV.copy (.agg (spotC a)) = .agg (spotC a) from rfl, bx_agg (cs := spotC a) rfl]
  simp only [bind_some', List.length_nil, List.nil_append, ldA_at g, c0]
  rw [show AV.canon (.agg (spotC a)) = .agg (spotC a) from rfl]
  simp only [spot_den, retOr_ret, bind_some', not_bool, copy_bool]
theorem spots_den (a : Alarm) (h : H) : D n_slices_ContainsFunc_api_Spot_api_Spot [.list [spotC a] .no, .func (.func n_prog_Check_c2) [] []] h = some (.ret (.bool (!spotOk a)), h) := by
  have e : ∀ h, D n_slices_IndexFunc_api_Spot_api_Spot [.list [spotC a] .no, .func (.func n_prog_Check_c2) [] []] h = some (.ret (.int .i64 (if spotOk a then -1 else 0)), h) := by
    intro h
    refine slices_IndexFunc_api_Spot_api_Spot.den 3 rfl (h' := []) ?_ rfl rfl
    rw [slices_IndexFunc_api_Spot_api_Spot.f_eq (slices_IndexFunc_api_Spot_api_Spot.fx _)]
    rw [show lnSl (.list [spotC a] .no) = some (.int .i64 1) from rfl]
    simp only [bind_some']
    rw [slices_IndexFunc_api_Spot_api_Spot.l0_eq (slices_IndexFunc_api_Spot_api_Spot.fx _)]
    rw [show bin .lss (.int .i64 0) (.int .i64 1) = some (.bool true) from rfl]
    simp only [bind_some', condV_true]
    rw [show ixSlice 3 (.list [spotC a] .no) (.int .i64 0) = some (.rptr (spotC a) 0) from rfl]
    simp only [bind_some', ldAgg_rptr]
    rw [show aggAt 3 (spotC a) 0 = some (.agg (spotC a)) from rfl]
    simp only [bind_some']
    rw [show AV.canon (.agg (spotC a)) = .agg (spotC a) from rfl]
    simp only [c2_den, bind_some', retOr_ret]
    cases spotOk a with
    | false => rfl
    | true =>
      rw [show bin .add (.int .i64 0) (.int .i64 1) = some (.int .i64 1) from rfl]
      simp only [Bool.not_true, condV_false, bind_some']
      rw [slices_IndexFunc_api_Spot_api_Spot.l0_eq (slices_IndexFunc_api_Spot_api_Spot.fx _)]
      rw [show bin .lss (.int .i64 1) (.int .i64 1) = some (.bool false) from rfl]
      rfl
  refine slices_ContainsFunc_api_Spot_api_Spot.den 0 rfl (h' := []) ?_ rfl rfl
  rw [slices_ContainsFunc_api_Spot_api_Spot.f_eq (slices_ContainsFunc_api_Spot_api_Spot.fx _)]
  simp only [canon_list, canon_func, e, bind_some', retOr_ret, bin_geq, copy_bool]
  cases spotOk a <;> rfl
theorem edges_den (f : Nat) (cap : List AV) (h : H) : D n_slices_ContainsFunc_api_Edge_api_Edge [.list [] .no, .func (.func f) [] cap] h = some (.ret (.bool false), h) := by
  have e : ∀ cap, D n_slices_IndexFunc_api_Edge_api_Edge [.list [] .no, .func (.func f) [] cap] h = some (.ret (.int .i64 (-1)), h) := by
    intro cap
    refine slices_IndexFunc_api_Edge_api_Edge.den 3 ?_ rfl
    rw [slices_IndexFunc_api_Edge_api_Edge.f_eq (slices_IndexFunc_api_Edge_api_Edge.fx _)]
    rw [show lnSl (.list [] .no) = some (.int .i64 0) from rfl]
    simp only [bind_some']
    rw [slices_IndexFunc_api_Edge_api_Edge.l0_eq (slices_IndexFunc_api_Edge_api_Edge.fx _)]
    rw [show bin .lss (.int .i64 0) (.int .i64 0) = some (.bool false) from rfl]
    rfl
  refine slices_ContainsFunc_api_Edge_api_Edge.den 1 ?_ rfl
  rw [slices_ContainsFunc_api_Edge_api_Edge.f_eq (slices_ContainsFunc_api_Edge_api_Edge.fx _)]
  simp only [canon_list, canon_fn, e, bind_some', retOr_ret]
  rfl
end Go.Proofs.YtdlnkfghgbddhaaGreat

open Go Go.Ve Go.Proofs
namespace Go.Proofs.YtdlnkfghgbddhaaGreat
set_option maxRecDepth 100000
set_option linter.all false
def progC (a : Alarm) : List AV := [.str a.func, .list [] .no, .list [spotC a] .no, .list [] .no]
theorem fits_den (a : Alarm) (h : H) : D n_prog_Check [.agg (progC a)] h = some (.ret (.int .i64 (if spotOk a then 0 else 110)), h) := by
  have g : ∀ z, ([AObj.arr (progC a) false, AObj.arr [.int .i64 z] false] : H)[0]? = some (.arr (progC a) false) := fun z => rfl
  have g1 : ([AObj.arr (progC a) false, AObj.arr [.int .i64 1] false] : H)[1]? = some (.arr [.int .i64 1] false) := rfl
  have g0 : ([AObj.arr (progC a) false] : H)[0]? = some (.arr (progC a) false) := rfl
  have c0 : (progC a)[0 + 0]? = some (.str a.func) := rfl
  have c1 : (progC a)[0 + 1]? = some (.list [] .no) := rfl
  have c2 : (progC a)[0 + 2]? = some (.list [spotC a] .no) := rfl
  have c3 : (progC a)[0 + 3]? = some (.list [] .no) := rfl
  have st : stN 1 ([AObj.arr (progC a) false] ++ [AObj.arr [.int .i64 0] false] : H) (.ptr 1 0) (.int .i64 1) = some (.undef, [AObj.arr (progC a) false, AObj.arr [.int .i64 1] false]) := rfl
  have key : prog_Check.f (prog_Check.JD 1) (.agg (progC a)) [] = some (.ret (.int .i64 (if spotOk a then 0 else 110)), [AObj.arr (progC a) false, AObj.arr [.int .i64 1] false]) := by
    have ej2 : ∀ b, prog_Check.j2 (prog_Check.JD 1) (.bool b) [AObj.arr (progC a) false, AObj.arr [.int .i64 1] false] = some (.ret (.int .i64 (if b then 110 else 0)), [AObj.arr (progC a) false, AObj.arr [.int .i64 1] false]) := by
      intro b
      rw [prog_Check.j2_eq (prog_Check.fx 1)]
      cases b <;> rfl
    have ej : ∀ b f cap, prog_Check.j1 (prog_Check.JD 1) (.ptr 0 0) (.func (.func f) [] cap) (.bool b) [AObj.arr (progC a) false, AObj.arr [.int .i64 1] false] = some (.ret (.int .i64 (if b || !spotOk a then 110 else 0)), [AObj.arr (progC a) false, AObj.arr [.int .i64 1] false]) := by
      intro b f cap
      rw [prog_Check.j1_eq (prog_Check.fx 1)]
      cases b with
      | true => rfl
      | false =>
        rw [condV_false, prog_Check.j0_eq (prog_Check.fx 1)]
        simp only [fAddr_ptr, bind_some', ld_at (g 1), c2, c3, canon_list, canon_fn, spots_den, edges_den, retOr_ret, ej2, Bool.false_or]
        cases spotOk a <;> rfl
    have l0 : lnSl (.list [] .no) = some (.int .i64 0) := rfl
    rw [prog_Check.f_eq (prog_Check.fx 1)]
    rw [show AV.copy (.agg (progC a)) = .agg (progC a) from rfl, bx_agg (cs := progC a) rfl]
    simp only [bind_some', List.length_nil, List.nil_append, List.length_singleton, fAddr_ptr, ld_at g0, c2, copy_int]
    rw [show lnSl (.list [spotC a] .no) = some (.int .i64 1) from rfl]
    simp only [bind_some', copy_int, st, ld_at (g 1), ld_at g1, c0, c1, c3, canon_str, canon_list, pname_den, vars_den, retOr_ret, not_bool, ej, Bool.true_or]
    rw [show ([AV.int .i64 1])[0]? = some (.int .i64 1) from rfl]
    simp only [bind_some', l0, canon_int, fAddr_ptr, ld_at (g 1), c3, one_den, retOr_ret, not_bool, bin_gtr]
    rw [show (decide ((1 : Int) ≤ 1) && decide ((1 : Int) ≤ 128)) = true from rfl, show decide ((0 : Int) > 256) = false from rfl]
    simp only [Bool.not_true, condV_false, ej, Bool.false_or]
    unfold spotOk
    cases namS morB 32 a.func with
    | true =>
      simp only [Bool.not_true, condV_false, Bool.true_and]
      cases namS patB 64 a.file && (decide (1 ≤ a.line) && decide (a.line ≤ 1048576)) <;> rfl
    | false => rfl
  have := prog_Check.den 1 (h := h) (by rfl) key rfl rfl
  exact this
theorem alarm_den (a : Alarm) (h : H) : D n_alarm_Check [.agg a.c] h = some (.ret (.int .i64 (if a.ok then 0 else 170)), h) := by
  have g0 : ([AObj.arr a.c false] : H)[0]? = some (.arr a.c false) := rfl
  obtain ⟨pc, hpc⟩ : ∃ pc : List AV, pc = [.str a.func, .list [] .cap, .list [spotC a] .cap, .list [] .cap] := ⟨_, rfl⟩
  have g1 : ([AObj.arr a.c false, AObj.arr pc false] : H)[0]? = some (.arr a.c false) := rfl
  have g2 : ([AObj.arr a.c false, AObj.arr pc false] : H)[1]? = some (.arr pc false) := rfl
  have st : stN 4 ([AObj.arr a.c false] ++ [AObj.arr [.str [], .list [] .cap, .list [] .cap, .list [] .cap] false] : H) (.ptr 1 0) (.agg pc) = some (.undef, [AObj.arr a.c false, AObj.arr pc false]) := by rw [hpc]; rfl
  have pa : aggAt 4 pc 0 = some (.agg pc) := by rw [hpc]; rfl
  have pcan : AV.canon (.agg pc) = .agg (progC a) := by rw [hpc]; rfl
  have key : alarm_Check.f (alarm_Check.JD 1) (.agg a.c) [] = some (.ret (.int .i64 (if a.ok then 0 else 170)), [AObj.arr a.c false, AObj.arr pc false]) := by
    have ej2 : ∀ b, alarm_Check.j2 (alarm_Check.JD 1) (.bool b) [AObj.arr a.c false, AObj.arr pc false] = some (.ret (.int .i64 (if b then 170 else 0)), [AObj.arr a.c false, AObj.arr pc false]) := by
      intro b
      rw [alarm_Check.j2_eq (alarm_Check.fx 1)]
      cases b <;> rfl
    have ej1 : ∀ x y, alarm_Check.j1 (alarm_Check.JD 1) (.ptr 0 0) (.bool x) (.bool y) [AObj.arr a.c false] = some (.ret (.int .i64 (if x && (y && (exprS a.expr && spotOk a)) then 0 else 170)), [AObj.arr a.c false, AObj.arr pc false]) := by
      intro x y
      rw [alarm_Check.j1_eq (alarm_Check.fx 1)]
      simp only [bind_some', List.length_cons, List.length_nil, Nat.zero_add, fAddr_ptr, ld_at g0, a.a2, a.a3, a.a4, copy_str, copy_int]
      rw [show mkAgg [.str [], .str [], .int .i64 0] [(0, 1, .str a.func), (1, 1, .str a.file), (2, 1, .int .i64 a.line)] = some (.agg (spotC a)) from rfl]
      simp only [bind_some']
      rw [show mkRows 3 [.str [], .str [], .int .i64 0] 1 [(0, .agg (spotC a))] = some (.list [spotC a] .cap) from rfl]
      simp only [bind_some', copy_cap]
      rw [show mkAgg [.str [], .list [] .cap, .list [] .cap, .list [] .cap] [(0, 1, .str a.func), (2, 1, .list [spotC a] .cap)] = some (.agg pc) by rw [hpc]; rfl]
      simp only [bind_some', st, not_bool, ej2, ld_at g1, a.a5, canon_str, expr_den, retOr_ret, ldA_at g2, pa, pcan, fits_den, bin_neq]
      cases x <;> cases y <;> cases exprS a.expr <;> cases spotOk a <;> rfl
    have ej0 : ∀ x, alarm_Check.j0 (alarm_Check.JD 1) (.ptr 0 0) (.bool x) [AObj.arr a.c false] = some (.ret (.int .i64 (if x && ((decide (1 ≤ a.sev) && decide (a.sev ≤ 2)) && (exprS a.expr && spotOk a)) then 0 else 170)), [AObj.arr a.c false, AObj.arr pc false]) := by
      intro x
      rw [alarm_Check.j0_eq (alarm_Check.fx 1)]
      simp only [bind_some', fAddr_ptr, ld_at g0, a.a1, geqF, bin_leq, ej1]
      cases decide (1 ≤ a.sev) <;> rfl
    rw [alarm_Check.f_eq (alarm_Check.fx 1)]
    rw [copy_agg, Alarm.c_copy, bx_agg a.c_one]
    simp only [bind_some', List.length_nil, List.nil_append, fAddr_ptr, ld_at g0, a.a0, geqF, bin_leq, ej0]
    have e : a.ok = ((decide (1 ≤ a.kind) && decide (a.kind ≤ 3)) && ((decide (1 ≤ a.sev) && decide (a.sev ≤ 2)) && (exprS a.expr && spotOk a))) := by
      unfold Alarm.ok spotOk
      cases namS morB 32 a.func <;> cases namS patB 64 a.file <;> cases exprS a.expr <;> simp
    rw [e]
    cases decide (1 ≤ a.kind) <;> rfl
  exact alarm_Check.den 1 (by simp [pureL, AV.pure]) key rfl rfl
theorem recnote_den (s : List UInt8) (h : H) : D n_rec_note [.str s] h = some (.ret (.bool (noteS s)), h) := by
  have eb : ∀ h, D n_result_Base [.list [[.int .u64 0, .str s]] .no] h = some (.ret (.int .i64 (if noteS s then 0 else 210)), h) := by
    intro h
    have g : ([AObj.arr [.int .u64 0, .str s] false] : H)[0]? = some (.arr [.int .u64 0, .str s] false) := rfl
    have st : stN 2 ([AObj.arr [.int .u64 0, .str []] false] : H) (.ptr 0 0) (.agg [.int .u64 0, .str s]) = some (.undef, [AObj.arr [.int .u64 0, .str s] false]) := rfl
    refine result_Base.den 3 (by rfl) (h' := [AObj.arr [.int .u64 0, .str s] false]) ?_ rfl rfl
    rw [result_Base.f_eq (result_Base.fx _)]
    rw [show lnSl (.list [[.int .u64 0, .str s]] .no) = some (.int .i64 1) from rfl]
    simp only [bind_some']
    rw [show bin .gtr (.int .i64 1) (.int .i64 1024) = some (.bool false) from rfl]
    simp only [bind_some', condV_false]
    rw [result_Base.l0_eq (result_Base.fx _)]
    rw [show bin .lss (.int .i64 0) (.int .i64 1) = some (.bool true) from rfl]
    simp only [bind_some', condV_true]
    rw [show ixSlice 2 (.list [[.int .u64 0, .str s]] .no) (.int .i64 0) = some (.rptr [.int .u64 0, .str s] 0) from rfl]
    simp only [bind_some', ldAgg_rptr]
    rw [show aggAt 2 [.int .u64 0, .str s] 0 = some (.agg [.int .u64 0, .str s]) from rfl]
    simp only [bind_some', List.length_nil, List.nil_append]
    rw [show AV.copy (.agg [.int .u64 0, .str s]) = .agg [.int .u64 0, .str s] from rfl]
    simp only [st, bind_some', fAddr_ptr, ld_at g]
    rw [show ([AV.int .u64 0, .str s])[0 + 1]? = some (.str s) from rfl]
    simp only [bind_some', canon_str, note_den, retOr_ret, not_bool]
    rw [show bin .gtr (.int .i64 0) (.int .i64 0) = some (.bool false) from rfl]
    simp only [bind_some', condV_false]
    rw [result_Base.j0_eq (result_Base.fx _), result_Base.j0_eq (result_Base.fx _)]
    cases noteS s with
    | false => rfl
    | true =>
      simp only [Bool.not_true, condV_false]
      rw [show bin .add (.int .i64 0) (.int .i64 1) = some (.int .i64 1) from rfl]
      simp only [bind_some']
      rw [result_Base.l0_eq (result_Base.fx _)]
      rw [show bin .lss (.int .i64 1) (.int .i64 1) = some (.bool false) from rfl]
      rfl
  refine rec_note.den 1 (by rfl) (h' := []) ?_ rfl rfl
  rw [rec_note.f_eq (rec_note.fx _)]
  rw [copy_str, show mkAgg [.int .u64 0, .str []] [(1, 1, .str s)] = some (.agg [.int .u64 0, .str s]) from rfl]
  simp only [bind_some']
  rw [show mkRows 2 [.int .u64 0, .str []] 1 [(0, .agg [.int .u64 0, .str s])] = some (.list [[.int .u64 0, .str s]] .cap) from rfl]
  simp only [bind_some', canon_list, eb, retOr_ret, bin_eql, copy_bool]
  cases noteS s <;> rfl
theorem right_den (e : Entry) (h : H) : D n_rec_Right [.agg e.c] h = some (.ret (.bool e.ok), h) := by
  refine rec_Right.den 1 (by simp [pureL, AV.pure]) (h' := [.arr e.c false]) ?_ rfl rfl
  have g : ([AObj.arr e.c false] : H)[0]? = some (.arr e.c false) := rfl
  have ej1 : ∀ x y, rec_Right.j1 (rec_Right.JD 1) (.ptr 0 0) (.bool x) (.bool y) [.arr e.c false] = some (.ret (.bool (e.alarm.ok && (x && (y && (noteS e.note && (decide (e.state = 3) || decide (e.note = []))))))), [.arr e.c false]) := by
    intro x y
    rw [rec_Right.j1_eq (rec_Right.fx 1)]
    simp only [fAddr_ptr, bind_some', ldA_at g, ld_at g, e.alarmAt, e.c7, e.c9, canon_agg, Alarm.c_canon, alarm_den, retOr_ret, bin_eql, canon_str, recnote_den, bin_str, strBin_eql, copy_bool]
    cases e.alarm.ok <;> cases x <;> cases y <;> cases noteS e.note <;> cases decide (e.state = 3) <;> rfl
  have ej0 : ∀ x, rec_Right.j0 (rec_Right.JD 1) (.ptr 0 0) (.bool x) [.arr e.c false] = some (.ret (.bool (e.alarm.ok && (x && ((decide (1 ≤ e.count) && decide (e.count ≤ 1048576)) && (noteS e.note && (decide (e.state = 3) || decide (e.note = []))))))), [.arr e.c false]) := by
    intro x
    rw [rec_Right.j0_eq (rec_Right.fx 1)]
    simp only [fAddr_ptr, bind_some', ld_at g, e.c8, geqF, bin_leq, ej1]
    cases decide (1 ≤ e.count) <;> rfl
  rw [rec_Right.f_eq (rec_Right.fx 1)]
  rw [copy_agg, Entry.c_copy, bx_agg e.c_one]
  simp only [bind_some', List.length_nil, List.nil_append, fAddr_ptr, ld_at g, e.c7, geqF, bin_leq, ej0]
  unfold Entry.ok
  cases decide (1 ≤ e.state) <;> rfl
end Go.Proofs.YtdlnkfghgbddhaaGreat

open Go Go.Ve Go.Proofs
namespace Go.Proofs.YtdlnkfghgbddhaaGreat
set_option maxRecDepth 100000
set_option linter.all false
abbrev Fn1 (n : Nat) : AV := .func (.func n) [] []
def K0 : List AV := [.list [] .cap, .list [] .cap, .nilFunc]
def K1 (z : Nat) : List AV := [.list [[Fn1 n_rec_pen_alarm]] .cap, .list [[Fn1 n_rec_taker_alarm]] .cap, .func (.func n_rec_kinds_c2) [] [.ptr z 0]]
def K2 (z : Nat) : List AV := [.list [[Fn1 n_rec_pen_note]] .cap, .list [[Fn1 n_rec_taker_note]] .cap, .func (.func n_rec_kinds_c3) [] [.ptr z 0]]
def K3 : List AV := [.list [] .cap, .list [] .cap, Fn1 n_rec_kinds_c1]
def K5 : List AV := [.list [[Fn1 n_rec_pen_alarm], [Fn1 n_rec_pen_stand], [Fn1 n_rec_pen_note]] .cap, .list [[Fn1 n_rec_taker_alarm], [Fn1 n_rec_taker_stand], [Fn1 n_rec_taker_note]] .cap, Fn1 n_rec_Right]
def kindsM (z : Nat) : List (AV × AV) := [(.int .i64 1, .agg (K1 z)), (.int .i64 2, .agg (K2 z)), (.int .i64 3, .agg K3), (.int .i64 4, .agg K3), (.int .i64 5, .agg K5)]
def kindOf (z : Nat) (k : Int) : List AV := if k = 1 then K1 z else if k = 2 then K2 z else if k = 3 then K3 else if k = 4 then K3 else if k = 5 then K5 else K0
def isKind (k : Int) : Bool := decide (k = 1 ∨ k = 2 ∨ k = 3 ∨ k = 4 ∨ k = 5)
theorem lk_kinds {h : H} {id z : Nat} (hi : h[id]? = some (.map (kindsM z))) (k : Int) (ok : Bool) : lkMap .int (.agg K0) h (.map id) (.int .i64 k) ok = some (if ok then .tuple [.agg (kindOf z k), .bool (isKind k)] else .agg (kindOf z k)) := by
  have e : ∀ ok, lkMap .int (.agg K0) [.map (kindsM z)] (.map 0) (.int .i64 k) ok = some (if ok then .tuple [.agg (kindOf z k), .bool (isKind k)] else .agg (kindOf z k)) := by
    intro ok
    by_cases e1 : k = 1
    · subst e1; rfl
    by_cases e2 : k = 2
    · subst e2; rfl
    by_cases e3 : k = 3
    · subst e3; rfl
    by_cases e4 : k = 4
    · subst e4; rfl
    by_cases e5 : k = 5
    · subst e5; rfl
    have f1 : (k == 1) = false := by simpa using e1
    have f2 : (k == 2) = false := by simpa using e2
    have f3 : (k == 3) = false := by simpa using e3
    have f4 : (k == 4) = false := by simpa using e4
    have f5 : (k == 5) = false := by simpa using e5
    simp [lkMap, kindsM, kindOf, isKind, isKey, findKey, keyEq, f1, f2, f3, f4, f5, e1, e2, e3, e4, e5]
  rw [← e ok]
  unfold lkMap
  rw [mapEs_map, hi, mapEs_map]
  rfl
theorem up_new {G : H} {es : List (AV × AV)} {k : Int} {v : AV} (hk : findKey (.int .i64 k) es 0 = some none) : upMap .int (G ++ [.map es]) (.map G.length) (.int .i64 k) v = some (.undef, G ++ [.map (es ++ [(.int .i64 k, v.copy)])]) := by
  unfold upMap
  simp only [get_new, isKey, if_true, hk, bind_some', set_new]
theorem kinds_den (h : H) : D n_rec_kinds [] h = some (.ret (.map (h.length + 1)), (h ++ [.arr [Fn1 n_rec_kinds_c1] false]) ++ [.map (kindsM h.length)]) := by
  refine rec_kinds.den 1 ?_ rfl
  rw [rec_kinds.f_eq (rec_kinds.fx 1)]
  obtain ⟨G, hG⟩ : ∃ G, G = h ++ [AObj.arr [Fn1 n_rec_kinds_c1] false] := ⟨_, rfl⟩
  have st : stN 1 (h ++ [AObj.arr [.nilFunc] false]) (.ptr h.length 0) (AV.copy (Fn1 n_rec_kinds_c1)) = some (.undef, G) := by
    rw [stN_ptr, get_new, objSet_arr]
    rw [hG]
    simp [splice, set_new]
  have gG : G.length = h.length + 1 := by rw [hG]; simp
  have ld : ∀ es, ldCell (G ++ [AObj.map es]) (.ptr h.length 0) = some (Fn1 n_rec_kinds_c1) := by
    intro es
    rw [hG, ld_at (get_app get_new)]
    rfl
  have u1 : upMap .int (G ++ [.map []]) (.map G.length) (.int .i64 1) (.agg (K1 h.length)) = some (.undef, G ++ [.map [(.int .i64 1, .agg (K1 h.length))]]) := up_new rfl
  have u2 : upMap .int (G ++ [.map [(.int .i64 1, .agg (K1 h.length))]]) (.map G.length) (.int .i64 2) (.agg (K2 h.length)) = some (.undef, G ++ [.map [(.int .i64 1, .agg (K1 h.length)), (.int .i64 2, .agg (K2 h.length))]]) := up_new rfl
  have u3 : upMap .int (G ++ [.map [(.int .i64 1, .agg (K1 h.length)), (.int .i64 2, .agg (K2 h.length))]]) (.map G.length) (.int .i64 3) (.agg K3) = some (.undef, G ++ [.map [(.int .i64 1, .agg (K1 h.length)), (.int .i64 2, .agg (K2 h.length)), (.int .i64 3, .agg K3)]]) := up_new rfl
  have u4 : upMap .int (G ++ [.map [(.int .i64 1, .agg (K1 h.length)), (.int .i64 2, .agg (K2 h.length)), (.int .i64 3, .agg K3)]]) (.map G.length) (.int .i64 4) (.agg K3) = some (.undef, G ++ [.map [(.int .i64 1, .agg (K1 h.length)), (.int .i64 2, .agg (K2 h.length)), (.int .i64 3, .agg K3), (.int .i64 4, .agg K3)]]) := up_new rfl
  have u5 : upMap .int (G ++ [.map [(.int .i64 1, .agg (K1 h.length)), (.int .i64 2, .agg (K2 h.length)), (.int .i64 3, .agg K3), (.int .i64 4, .agg K3)]]) (.map G.length) (.int .i64 5) (.agg K5) = some (.undef, G ++ [.map (kindsM h.length)]) := up_new rfl
  simp only [st, bind_some']
  rw [show mkRows 1 [.nilFunc] 1 [(0, .func (.func n_rec_pen_alarm) [] [])] = some (.list [[Fn1 n_rec_pen_alarm]] .cap) from rfl]
  simp only [bind_some']
  rw [show mkRows 1 [.nilFunc] 1 [(0, .func (.func n_rec_taker_alarm) [] [])] = some (.list [[Fn1 n_rec_taker_alarm]] .cap) from rfl]
  simp only [bind_some']
  rw [show mkAgg [.list [] .cap, .list [] .cap, .nilFunc] [(0, 1, AV.copy (.list [[Fn1 n_rec_pen_alarm]] .cap)), (1, 1, AV.copy (.list [[Fn1 n_rec_taker_alarm]] .cap)), (2, 1, AV.copy (.func (.func n_rec_kinds_c2) [] [AV.copy (.ptr h.length 0)]))] = some (.agg (K1 h.length)) from rfl]
  simp only [bind_some', u1]
  rw [show mkRows 1 [.nilFunc] 1 [(0, .func (.func n_rec_pen_note) [] [])] = some (.list [[Fn1 n_rec_pen_note]] .cap) from rfl]
  simp only [bind_some']
  rw [show mkRows 1 [.nilFunc] 1 [(0, .func (.func n_rec_taker_note) [] [])] = some (.list [[Fn1 n_rec_taker_note]] .cap) from rfl]
  simp only [bind_some']
  rw [show mkAgg [.list [] .cap, .list [] .cap, .nilFunc] [(0, 1, AV.copy (.list [[Fn1 n_rec_pen_note]] .cap)), (1, 1, AV.copy (.list [[Fn1 n_rec_taker_note]] .cap)), (2, 1, AV.copy (.func (.func n_rec_kinds_c3) [] [AV.copy (.ptr h.length 0)]))] = some (.agg (K2 h.length)) from rfl]
  simp only [bind_some', u2, ld]
  rw [show mkAgg [.list [] .cap, .list [] .cap, .nilFunc] [(2, 1, AV.copy (Fn1 n_rec_kinds_c1))] = some (.agg K3) from rfl]
  simp only [bind_some', u3, ld]
  rw [show mkAgg [.list [] .cap, .list [] .cap, .nilFunc] [(2, 1, AV.copy (Fn1 n_rec_kinds_c1))] = some (.agg K3) from rfl]
  simp only [bind_some', u4]
  rw [show mkRows 1 [.nilFunc] 3 [(0, .func (.func n_rec_pen_alarm) [] []), (1, .func (.func n_rec_pen_stand) [] []), (2, .func (.func n_rec_pen_note) [] [])] = some (.list [[Fn1 n_rec_pen_alarm], [Fn1 n_rec_pen_stand], [Fn1 n_rec_pen_note]] .cap) from rfl]
  simp only [bind_some']
  rw [show mkRows 1 [.nilFunc] 3 [(0, .func (.func n_rec_taker_alarm) [] []), (1, .func (.func n_rec_taker_stand) [] []), (2, .func (.func n_rec_taker_note) [] [])] = some (.list [[Fn1 n_rec_taker_alarm], [Fn1 n_rec_taker_stand], [Fn1 n_rec_taker_note]] .cap) from rfl]
  simp only [bind_some']
  rw [show mkAgg [.list [] .cap, .list [] .cap, .nilFunc] [(0, 1, AV.copy (.list [[Fn1 n_rec_pen_alarm], [Fn1 n_rec_pen_stand], [Fn1 n_rec_pen_note]] .cap)), (1, 1, AV.copy (.list [[Fn1 n_rec_taker_alarm], [Fn1 n_rec_taker_stand], [Fn1 n_rec_taker_note]] .cap)), (2, 1, AV.copy (.func (.func n_rec_Right) [] []))] = some (.agg K5) from rfl]
  simp only [bind_some', u5]
  rw [← gG, hG]
  rfl
theorem zero_den (e : Entry) (h : H) : D n_rec_kinds_c1 [.agg e.c] h = some (.ret (.bool (decide (e.alarm = .none ∧ e.state = 0 ∧ e.count = 0 ∧ e.note = []))), h) := by
  refine rec_kinds_c1.den 1 (by simp [pureL, AV.pure]) (h' := [.arr e.c false]) ?_ rfl rfl
  have g : ([AObj.arr e.c false] : H)[0]? = some (.arr e.c false) := rfl
  rw [rec_kinds_c1.f_eq (rec_kinds_c1.fx 1)]
  rw [copy_agg, Entry.c_copy, bx_agg e.c_one]
  simp only [bind_some', List.length_nil, List.nil_append, fAddr_ptr, ld_at g, ldA_at g, Entry.agg, e.c0, copy_int]
  rw [show mkAgg [.int .u64 0, .int .i64 0, .int .i64 0, .str [], .str [], .int .i64 0, .str [], .int .i64 0, .int .i64 0, .str []] [(0, 1, .int .u64 (e.finger.val : Int))] = some (.agg (⟨e.finger, .none, 0, 0, []⟩ : Entry).c) from rfl]
  simp only [bind_some', entry_eq, eqv_f, copy_bool]
  rw [decide_eq_decide.2 (show (e = ⟨e.finger, .none, 0, 0, []⟩ ↔ e.alarm = .none ∧ e.state = 0 ∧ e.count = 0 ∧ e.note = []) by
    rcases e with ⟨f, a, s, c, n⟩
    simp)]
theorem c2k_den (e : Entry) (z : Nat) (h : H) (hz : h[z]? = some (.arr [Fn1 n_rec_kinds_c1] false)) : D n_rec_kinds_c2 [.agg e.c, .ptr z 0] h = some (.ret (.bool (e.alarm.ok && decide (e.state = 0 ∧ e.count = 0 ∧ e.note = []))), h ++ [.arr e.c false]) := by
  refine rec_kinds_c2.den 1 ?_ rfl
  obtain ⟨G, hG⟩ : ∃ G, G = h ++ [AObj.arr e.c false] := ⟨_, rfl⟩
  have g : G[h.length]? = some (.arr e.c false) := hG ▸ get_new
  have gz : G[z]? = some (.arr [Fn1 n_rec_kinds_c1] false) := hG ▸ get_app hz
  rw [rec_kinds_c2.f_eq (rec_kinds_c2.fx 1)]
  rw [copy_agg, Entry.c_copy, bx_agg e.c_one]
  simp only [bind_some', ← hG, fAddr_ptr, ld_at g, ldA_at g, e.alarmAt, e.c7, e.c8, e.c9, canon_agg, Alarm.c_canon, alarm_den, retOr_ret, bin_eql, ld_at gz, copy_int, copy_str, copy_bool]
  rw [show ([Fn1 n_rec_kinds_c1])[0]? = some (Fn1 n_rec_kinds_c1) from rfl]
  simp only [bind_some']
  rw [show mkAgg [.int .u64 0, .int .i64 0, .int .i64 0, .str [], .str [], .int .i64 0, .str [], .int .i64 0, .int .i64 0, .str []] [(7, 1, .int .i64 e.state), (8, 1, .int .i64 e.count), (9, 1, .str e.note)] = some (.agg (⟨0, .none, e.state, e.count, e.note⟩ : Entry).c) from rfl]
  simp only [bind_some', canon_agg, Entry.c_canon]
  rw [show ∀ x, callVal D G (Fn1 n_rec_kinds_c1) [x] = D n_rec_kinds_c1 [x] G from fun x => rfl, zero_den]
  simp only [bind_some', retOr_ret, copy_bool, true_and]
  cases e.alarm.ok <;> rfl
theorem c3k_den (e : Entry) (z : Nat) (h : H) (hz : h[z]? = some (.arr [Fn1 n_rec_kinds_c1] false)) : D n_rec_kinds_c3 [.agg e.c, .ptr z 0] h = some (.ret (.bool (noteS e.note && decide (e.alarm = .none ∧ e.state = 0 ∧ e.count = 0))), h ++ [.arr e.c false]) := by
  refine rec_kinds_c3.den 1 ?_ rfl
  obtain ⟨G, hG⟩ : ∃ G, G = h ++ [AObj.arr e.c false] := ⟨_, rfl⟩
  have g : G[h.length]? = some (.arr e.c false) := hG ▸ get_new
  have gz : G[z]? = some (.arr [Fn1 n_rec_kinds_c1] false) := hG ▸ get_app hz
  rw [rec_kinds_c3.f_eq (rec_kinds_c3.fx 1)]
  rw [copy_agg, Entry.c_copy, bx_agg e.c_one]
  simp only [bind_some', ← hG, fAddr_ptr, ld_at g, ldA_at g, e.alarmAt, e.c7, e.c8, e.c9, canon_str, recnote_den, retOr_ret, ld_at gz, copy_int, copy_agg, Alarm.c_copy, copy_bool]
  rw [show ([Fn1 n_rec_kinds_c1])[0]? = some (Fn1 n_rec_kinds_c1) from rfl]
  simp only [bind_some']
  rw [show mkAgg [.int .u64 0, .int .i64 0, .int .i64 0, .str [], .str [], .int .i64 0, .str [], .int .i64 0, .int .i64 0, .str []] [(1, 6, .agg e.alarm.c), (7, 1, .int .i64 e.state), (8, 1, .int .i64 e.count)] = some (.agg (⟨0, e.alarm, e.state, e.count, []⟩ : Entry).c) from rfl]
  simp only [bind_some', canon_agg, Entry.c_canon]
  rw [show ∀ x, callVal D G (Fn1 n_rec_kinds_c1) [x] = D n_rec_kinds_c1 [x] G from fun x => rfl, zero_den]
  simp only [bind_some', retOr_ret, copy_bool, and_true]
  cases noteS e.note <;> rfl
theorem may_den (z : Nat) (k : Int) (e : Entry) (hk : isKind k = true) (h : H) (hz : h[z]? = some (.arr [Fn1 n_rec_kinds_c1] false)) : ∃ f h', (kindOf z k)[0 + 2]? = some f ∧ callVal D h f [.agg e.c] = some (.ret (.bool (Change.ok ⟨k, e⟩)), h') ∧ Keep [] h h' := by
  unfold kindOf Change.ok
  unfold isKind at hk
  simp only [decide_eq_true_eq] at hk
  by_cases e1 : k = 1
  · simp only [if_pos e1]
    exact ⟨_, _, rfl, c2k_den e z h hz, .app⟩
  by_cases e2 : k = 2
  · simp only [if_neg e1, if_pos e2]
    exact ⟨_, _, rfl, c3k_den e z h hz, .app⟩
  by_cases e3 : k = 3
  · simp only [if_neg e1, if_neg e2, if_pos e3, if_pos (show k = 3 ∨ k = 4 from .inl e3)]
    exact ⟨_, _, rfl, zero_den e h, .refl _ _⟩
  by_cases e4 : k = 4
  · simp only [if_neg e1, if_neg e2, if_neg e3, if_pos e4, if_pos (show k = 3 ∨ k = 4 from .inr e4)]
    exact ⟨_, _, rfl, zero_den e h, .refl _ _⟩
  by_cases e5 : k = 5
  · simp only [if_neg e1, if_neg e2, if_neg e3, if_neg e4, if_pos e5, if_neg (show ¬ (k = 3 ∨ k = 4) by omega)]
    exact ⟨_, _, rfl, right_den e h, .refl _ _⟩
  omega
theorem noKind {k : Int} (hk : isKind k = false) (e : Entry) : Change.ok ⟨k, e⟩ = false := by
  unfold isKind at hk
  simp only [decide_eq_false_iff_not] at hk
  unfold Change.ok
  rw [if_neg (by show ¬ k = 1; omega), if_neg (by show ¬ k = 2; omega), if_neg (by show ¬ (k = 3 ∨ k = 4); omega), if_neg (by show ¬ k = 5; omega)]
theorem kindOf_one (z : Nat) (k : Int) : (kindOf z k).all AV.one = true ∧ (kindOf z k).length = 3 ∧ (kindOf z k).map AV.copyCell = kindOf z k := by
  unfold kindOf
  split
  · exact ⟨rfl, rfl, rfl⟩
  split
  · exact ⟨rfl, rfl, rfl⟩
  split
  · exact ⟨rfl, rfl, rfl⟩
  split
  · exact ⟨rfl, rfl, rfl⟩
  split
  · exact ⟨rfl, rfl, rfl⟩
  · exact ⟨rfl, rfl, rfl⟩
theorem check_den (x : Change) (h : H) : D n_rec_Check [.agg x.c] h = some (.ret (.int .i64 (if x.ok then 0 else 270)), h) := by
  have key : ∃ h', rec_Check.f (rec_Check.JD 1) (.agg x.c) [] = some (.ret (.int .i64 (if x.ok then 0 else 270)), h') := by
    have ej : ∀ b h, rec_Check.j0 (rec_Check.JD 1) (.bool b) h = some (.ret (.int .i64 (if b then 270 else 0)), h) := by
      intro b h
      rw [rec_Check.j0_eq (rec_Check.fx 1)]
      cases b <;> rfl
    obtain ⟨G, hG⟩ : ∃ G : H, G = [AObj.arr x.c false, AObj.arr K0 false, .arr [Fn1 n_rec_kinds_c1] false, .map (kindsM 2)] := ⟨_, rfl⟩
    have gx : G[0]? = some (.arr x.c false) := by rw [hG]; rfl
    have gk : G[1]? = some (.arr K0 false) := by rw [hG]; rfl
    have gz : G[2]? = some (.arr [Fn1 n_rec_kinds_c1] false) := by rw [hG]; rfl
    have gm : G[3]? = some (.map (kindsM 2)) := by rw [hG]; rfl
    have ek : D n_rec_kinds [] [AObj.arr x.c false, AObj.arr K0 false] = some (.ret (.map 3), G) := by rw [kinds_den, hG]; rfl
    obtain ⟨k1, k2, k3⟩ := kindOf_one 2 x.kind
    have st : stN 3 G (.ptr 1 0) (.agg (kindOf 2 x.kind)) = some (.undef, G.set 1 (.arr (kindOf 2 x.kind) false)) := by
      rw [st_agg gk (by rw [k2]; decide) k2 k1, k2]
      simp [K0]
    rw [rec_Check.f_eq (rec_Check.fx 1)]
    rw [copy_agg, Change.c_copy, bx_agg x.c_one]
    simp only [bind_some', List.length_nil, List.nil_append]
    rw [show ([AObj.arr x.c false] ++ [AObj.arr [.list [] .cap, .list [] .cap, .nilFunc] false] : H) = [AObj.arr x.c false, AObj.arr K0 false] from rfl, ek]
    simp only [bind_some', retOr_ret, fAddr_ptr, ld_at gx, x.c0]
    rw [ld_at (h := [AObj.arr x.c false, AObj.arr K0 false]) (id := 0) rfl, x.c0]
    simp only [eqO, eqb_self, whenB_true]
    have lk := lk_kinds gm x.kind true
    rw [show (AV.agg K0) = .agg [.list [] .cap, .list [] .cap, .nilFunc] from rfl] at lk
    rw [lk]
    simp only [bind_some', if_true, exTuple_eq]
    rw [show ([AV.agg (kindOf 2 x.kind), .bool (isKind x.kind)])[0]? = some (.agg (kindOf 2 x.kind)) from rfl, show ([AV.agg (kindOf 2 x.kind), .bool (isKind x.kind)])[1]? = some (.bool (isKind x.kind)) from rfl]
    simp only [bind_some', List.length_singleton]
    have sl : ∀ H : List AObj, H[1]? = some (.arr K0 false) → slotOp 1 [.list [] .cap, .list [] .cap, .nilFunc] H = some (.ptr 1 0) := by
      intro H hH
      unfold slotOp
      rw [hH]
      rfl
    rw [sl G gk, sl [AObj.arr x.c false, AObj.arr K0 false] rfl]
    simp only [bind_some', eqO, eqb_self, whenB_true, copy_agg, k3, st, not_bool]
    cases hk : isKind x.kind with
    | false =>
      have := noKind hk x.entry
      refine ⟨G.set 1 (.arr (kindOf 2 x.kind) false), ?_⟩
      simp only [Bool.not_false, condV_true, ej, if_true]
      rw [show x.ok = false from this]
      rfl
    | true =>
      have g1 : (G.set 1 (.arr (kindOf 2 x.kind) false))[1]? = some (.arr (kindOf 2 x.kind) false) := get_set gk
      have gx1 : (G.set 1 (.arr (kindOf 2 x.kind) false))[0]? = some (.arr x.c false) := (Keep.set (ids := [1]) (by simp)).get gx (by simp)
      have gz1 : (G.set 1 (.arr (kindOf 2 x.kind) false))[2]? = some (.arr [Fn1 n_rec_kinds_c1] false) := (Keep.set (ids := [1]) (by simp)).get gz (by simp)
      obtain ⟨f, h', ef, ec, _⟩ := may_den 2 x.kind x.entry hk _ gz1
      refine ⟨h', ?_⟩
      simp only [Bool.not_true, condV_false, fAddr_ptr, bind_some', ld_at g1, ef, ldA_at gx1, x.entryAt, canon_agg, Entry.c_canon, ec, retOr_ret, not_bool, ej]
      rw [show (⟨x.kind, x.entry⟩ : Change) = x from rfl]
      cases x.ok <;> rfl
  obtain ⟨h', key⟩ := key
  exact rec_Check.den 1 (by simp [pureL, AV.pure]) key rfl rfl
end Go.Proofs.YtdlnkfghgbddhaaGreat

open Go Go.Ve Go.Proofs
namespace Go.Proofs.YtdlnkfghgbddhaaGreat
set_option maxRecDepth 100000
set_option linter.all false
def alB (a : Alarm) : List UInt8 := lebB a.kind.toNat ++ (lebB a.sev.toNat ++ (txB a.func ++ (txB a.file ++ (lebB a.line.toNat ++ txB a.expr))))
def stB (e : Entry) : List UInt8 := lebB e.state.toNat ++ lebB e.count.toNat
def fiB (n : Nat) : List UInt8 := wdB (n % 4294967296) ++ wdB (n / 4294967296)
def tailB (k : Int) (e : Entry) : List UInt8 := (if k = 1 ∨ k = 5 then alB e.alarm else []) ++ ((if k = 5 then stB e else []) ++ (if k = 2 ∨ k = 5 then txB e.note else []))
def chB (x : Change) : List UInt8 := lebB x.kind.toNat ++ (fiB x.entry.finger.val ++ tailB x.kind x.entry)
def bodyB (l : List Change) : List UInt8 := lebB l.length ++ l.flatMap chB
theorem cvU {z : Int} (h1 : 0 ≤ z) (h2 : z ≤ 2 ^ 62) : cvInt .u64 (.int .i64 z) = some (.int .u64 ((z.toNat : Nat) : Int)) := by
  rw [cvInt_int, wrap_u64 h1 (by omega), Int.toNat_of_nonneg h1]
theorem wdB_len (n : Nat) : (wdB n).length = 4 := rfl
theorem fiB_len (n : Nat) : (fiB n).length = 8 := rfl
theorem txB_len {s : List UInt8} (h : s.length ≤ 2 ^ 40) : (txB s).length ≤ s.length + 10 := by
  have := lebB_10 (n := s.length) (by omega)
  simp [txB]; omega
theorem Alarm.ok_nums {a : Alarm} (h : a.ok = true) : 1 ≤ a.kind ∧ a.kind ≤ 3 ∧ 1 ≤ a.sev ∧ a.sev ≤ 2 ∧ 1 ≤ a.line ∧ a.line ≤ 1048576 ∧ a.func.length ≤ 32 ∧ a.file.length ≤ 64 ∧ a.expr.length ≤ 128 := by
  unfold Alarm.ok namS exprS at h
  simp only [Bool.and_eq_true, decide_eq_true_eq] at h
  omega
theorem alB_len {a : Alarm} (h : a.ok = true) : (alB a).length ≤ 300 := by
  have q := Alarm.ok_nums h
  have t1 := txB_len (s := a.func) (by omega)
  have t2 := txB_len (s := a.file) (by omega)
  have t3 := txB_len (s := a.expr) (by omega)
  have l1 := lebB_10 (n := a.kind.toNat) (by omega)
  have l2 := lebB_10 (n := a.sev.toNat) (by omega)
  have l3 := lebB_10 (n := a.line.toNat) (by omega)
  simp [alB]; omega
structure PS (id pi pe : Nat) (cs : List AV) (b : List UInt8) (h : H) : Prop where
  p : h[pi]? = some (.arr [.ptr id 0] false)
  e : h[pe]? = some (.arr cs false)
  w : PenAt h id b
  np : pi ≠ id
  ne : pe ≠ id
theorem PS.keep {id pi pe : Nat} {cs : List AV} {b b' : List UInt8} {h h' : H} (s : PS id pi pe cs b h) (k : Keep [id] h h') (w : PenAt h' id b') : PS id pi pe cs b' h' :=
  ⟨k.get s.p (by simp; exact s.np), k.get s.e (by simp; exact s.ne), w, s.np, s.ne⟩
theorem PS.num {id pi pe : Nat} {cs : List AV} {b : List UInt8} {h : H} (s : PS id pi pe cs b h) (n : Nat) (hn : n < 2 ^ 64) (hl : b.length ≤ 2 ^ 39) : ∃ h', D n_cur_Pen_U [.ptr id 0, .int .u64 n] h = some (.ret (.tuple []), h') ∧ Keep [id] h h' ∧ PS id pi pe cs (b ++ lebB n) h' := by
  obtain ⟨h', e, k, w⟩ := penU_den h id n b s.w hn (by omega)
  exact ⟨h', e, k, s.keep k w⟩
theorem PS.word {id pi pe : Nat} {cs : List AV} {b : List UInt8} {h : H} (s : PS id pi pe cs b h) (n : Nat) (hl : b.length ≤ 2 ^ 39) : ∃ h', D n_cur_Pen_Word [.ptr id 0, .int .u32 n] h = some (.ret (.tuple []), h') ∧ Keep [id] h h' ∧ PS id pi pe cs (b ++ wdB n) h' := by
  obtain ⟨h', e, k, w⟩ := penWord_den h id n b s.w (by omega)
  exact ⟨h', e, k, s.keep k w⟩
theorem PS.text {id pi pe : Nat} {cs : List AV} {b : List UInt8} {h : H} (s : PS id pi pe cs b h) (t : List UInt8) (ht : t.length ≤ 1000) (hl : b.length ≤ 2 ^ 39) : ∃ h', D n_cur_Pen_Text [.ptr id 0, .str t] h = some (.ret (.tuple []), h') ∧ Keep [id] h h' ∧ PS id pi pe cs (b ++ txB t) h' := by
  obtain ⟨h', e, k, w⟩ := penText_den h id b t s.w (by omega)
  exact ⟨h', e, k, s.keep k w⟩
theorem PS.start {id : Nat} {cs : List AV} {b : List UInt8} {h : H} (w : PenAt h id b) : PS id h.length (h.length + 1) cs b ((h ++ [.arr [.ptr id 0] false]) ++ [.arr cs false]) ∧ Keep [] h ((h ++ [.arr [.ptr id 0] false]) ++ [.arr cs false]) := by
  have k : Keep [] h ((h ++ [.arr [.ptr id 0] false]) ++ [.arr cs false]) := Keep.app.trans .app
  have := w.lt
  refine ⟨⟨get_app get_new, ?_, Keep.pen k w (by simp), by omega, by omega⟩, k⟩
  have := get_new (h := h ++ [AObj.arr [.ptr id 0] false]) (x := .arr cs false)
  simpa using this
theorem Entry.p1 (e : Entry) : e.c[0 + 1 + 0]? = some (.int .i64 e.alarm.kind) := rfl
theorem Entry.p2 (e : Entry) : e.c[0 + 1 + 1]? = some (.int .i64 e.alarm.sev) := rfl
theorem Entry.p3 (e : Entry) : e.c[0 + 1 + 2]? = some (.str e.alarm.func) := rfl
theorem Entry.p4 (e : Entry) : e.c[0 + 1 + 3]? = some (.str e.alarm.file) := rfl
theorem Entry.p5 (e : Entry) : e.c[0 + 1 + 4]? = some (.int .i64 e.alarm.line) := rfl
theorem Entry.p6 (e : Entry) : e.c[0 + 1 + 5]? = some (.str e.alarm.expr) := rfl
theorem ptr0 (id : Nat) : ([AV.ptr id 0])[0 + 0]? = some (.ptr id 0) := rfl
theorem penAlarm_den {id : Nat} {b : List UInt8} {h : H} (e : Entry) (ha : e.alarm.ok = true) (w : PenAt h id b) (hl : b.length ≤ 2 ^ 38) : ∃ h', D n_rec_pen_alarm [.agg [.ptr id 0], .agg e.c] h = some (.ret (.tuple []), h') ∧ Keep [id] h h' ∧ PenAt h' id (b ++ alB e.alarm) := by
  obtain ⟨s0, k0⟩ := PS.start (cs := e.c) w
  obtain ⟨G, hG⟩ : ∃ G, G = ((h ++ [AObj.arr [.ptr id 0] false]) ++ [AObj.arr e.c false] : H) := ⟨_, rfl⟩
  rw [← hG] at s0 k0
  have q := Alarm.ok_nums ha
  have l1 := lebB_10 (n := e.alarm.kind.toNat) (by omega)
  have l2 := lebB_10 (n := e.alarm.sev.toNat) (by omega)
  have l3 := lebB_10 (n := e.alarm.line.toNat) (by omega)
  have t1 := txB_len (s := e.alarm.func) (by omega)
  have t2 := txB_len (s := e.alarm.file) (by omega)
  obtain ⟨h1, e1, k1, s1⟩ := s0.num e.alarm.kind.toNat (by omega) (by omega)
  obtain ⟨h2, e2, k2, s2⟩ := s1.num e.alarm.sev.toNat (by omega) (by simp; omega)
  obtain ⟨h3, e3, k3, s3⟩ := s2.text e.alarm.func (by omega) (by simp; omega)
  obtain ⟨h4, e4, k4, s4⟩ := s3.text e.alarm.file (by omega) (by simp; omega)
  obtain ⟨h5, e5, k5, s5⟩ := s4.num e.alarm.line.toNat (by omega) (by simp; omega)
  obtain ⟨h6, e6, k6, s6⟩ := s5.text e.alarm.expr (by omega) (by simp; omega)
  refine ⟨h6, rec_pen_alarm.den 1 ?_ rfl, k0.nil.trans (k1.trans (k2.trans (k3.trans (k4.trans (k5.trans k6))))), by simpa [alB, List.append_assoc] using s6.w⟩
  rw [rec_pen_alarm.f_eq (rec_pen_alarm.fx 1)]
  rw [show AV.copy (.agg [.ptr id 0]) = .agg [.ptr id 0] from rfl, bx_agg (cs := [.ptr id 0]) rfl]
  simp only [bind_some', copy_agg, Entry.c_copy]
  rw [bx_agg e.c_one]
  simp only [bind_some', ← hG, List.length_append, List.length_singleton, fAddr_ptr, ld_at s0.p, ld_at s0.e, ptr0, e.p1, cvU (show 0 ≤ e.alarm.kind by omega) (by omega), canon_ptr, canon_int, canon_str, e1, retOr_ret, ld_at s1.p, ld_at s1.e, e.p2, cvU (show 0 ≤ e.alarm.sev by omega) (by omega), e2, ld_at s2.p, ld_at s2.e, e.p3, e3, ld_at s3.p, ld_at s3.e, e.p4, e4, ld_at s4.p, ld_at s4.e, e.p5, cvU (show 0 ≤ e.alarm.line by omega) (by omega), e5, ld_at s5.p, ld_at s5.e, e.p6, e6]
theorem penStand_den {id : Nat} {b : List UInt8} {h : H} (e : Entry) (h1 : 1 ≤ e.state ∧ e.state ≤ 3) (h2 : 1 ≤ e.count ∧ e.count ≤ 1048576) (w : PenAt h id b) (hl : b.length ≤ 2 ^ 38) : ∃ h', D n_rec_pen_stand [.agg [.ptr id 0], .agg e.c] h = some (.ret (.tuple []), h') ∧ Keep [id] h h' ∧ PenAt h' id (b ++ stB e) := by
  obtain ⟨s0, k0⟩ := PS.start (cs := e.c) w
  obtain ⟨G, hG⟩ : ∃ G, G = ((h ++ [AObj.arr [.ptr id 0] false]) ++ [AObj.arr e.c false] : H) := ⟨_, rfl⟩
  rw [← hG] at s0 k0
  have l1 := lebB_10 (n := e.state.toNat) (by omega)
  obtain ⟨h1, e1, k1, s1⟩ := s0.num e.state.toNat (by omega) (by omega)
  obtain ⟨h2, e2, k2, s2⟩ := s1.num e.count.toNat (by omega) (by simp; omega)
  refine ⟨h2, rec_pen_stand.den 1 ?_ rfl, k0.nil.trans (k1.trans k2), by simpa [stB, List.append_assoc] using s2.w⟩
  rw [rec_pen_stand.f_eq (rec_pen_stand.fx 1)]
  rw [show AV.copy (.agg [.ptr id 0]) = .agg [.ptr id 0] from rfl, bx_agg (cs := [.ptr id 0]) rfl]
  simp only [bind_some', copy_agg, Entry.c_copy]
  rw [bx_agg e.c_one]
  simp only [bind_some', ← hG, List.length_append, List.length_singleton, fAddr_ptr, ld_at s0.p, ld_at s0.e, ptr0, e.c7, e.c8, cvU (show 0 ≤ e.state by omega) (by omega), canon_ptr, canon_int, e1, retOr_ret, ld_at s1.p, ld_at s1.e, cvU (show 0 ≤ e.count by omega) (by omega), e2]
theorem penNote_den {id : Nat} {b : List UInt8} {h : H} (e : Entry) (hn : e.note.length ≤ 64) (w : PenAt h id b) (hl : b.length ≤ 2 ^ 38) : ∃ h', D n_rec_pen_note [.agg [.ptr id 0], .agg e.c] h = some (.ret (.tuple []), h') ∧ Keep [id] h h' ∧ PenAt h' id (b ++ txB e.note) := by
  obtain ⟨s0, k0⟩ := PS.start (cs := e.c) w
  obtain ⟨G, hG⟩ : ∃ G, G = ((h ++ [AObj.arr [.ptr id 0] false]) ++ [AObj.arr e.c false] : H) := ⟨_, rfl⟩
  rw [← hG] at s0 k0
  obtain ⟨h1, e1, k1, s1⟩ := s0.text e.note (by omega) (by omega)
  refine ⟨h1, rec_pen_note.den 1 ?_ rfl, k0.nil.trans k1, s1.w⟩
  rw [rec_pen_note.f_eq (rec_pen_note.fx 1)]
  rw [show AV.copy (.agg [.ptr id 0]) = .agg [.ptr id 0] from rfl, bx_agg (cs := [.ptr id 0]) rfl]
  simp only [bind_some', copy_agg, Entry.c_copy]
  rw [bx_agg e.c_one]
  simp only [bind_some', ← hG, List.length_append, List.length_singleton, fAddr_ptr, ld_at s0.p, ld_at s0.e, ptr0, e.c9, canon_ptr, canon_str, e1, retOr_ret]
end Go.Proofs.YtdlnkfghgbddhaaGreat

open Go Go.Ve Go.Proofs
namespace Go.Proofs.YtdlnkfghgbddhaaGreat
set_option maxRecDepth 100000
set_option linter.all false
theorem ok_cases {x : Change} (h : x.ok = true) :
    (x.kind = 1 ∧ x.entry.alarm.ok = true ∧ x.entry.state = 0 ∧ x.entry.count = 0 ∧ x.entry.note = []) ∨ (x.kind = 2 ∧ noteS x.entry.note = true ∧ x.entry.alarm = .none ∧ x.entry.state = 0 ∧ x.entry.count = 0) ∨
    ((x.kind = 3 ∨ x.kind = 4) ∧ x.entry.alarm = .none ∧ x.entry.state = 0 ∧ x.entry.count = 0 ∧ x.entry.note = []) ∨ (x.kind = 5 ∧ x.entry.ok = true) := by
  unfold Change.ok at h
  by_cases h1 : x.kind = 1
  · rw [if_pos h1] at h
    simp only [Bool.and_eq_true, decide_eq_true_eq] at h
    exact .inl ⟨h1, h⟩
  rw [if_neg h1] at h
  by_cases h2 : x.kind = 2
  · rw [if_pos h2] at h
    simp only [Bool.and_eq_true, decide_eq_true_eq] at h
    exact .inr (.inl ⟨h2, h⟩)
  rw [if_neg h2] at h
  by_cases h3 : x.kind = 3 ∨ x.kind = 4
  · rw [if_pos h3] at h
    simp only [decide_eq_true_eq] at h
    exact .inr (.inr (.inl ⟨h3, h⟩))
  rw [if_neg h3] at h
  by_cases h5 : x.kind = 5
  · rw [if_pos h5] at h
    exact .inr (.inr (.inr ⟨h5, h⟩))
  rw [if_neg h5] at h
  exact Bool.noConfusion h
theorem noteS_len {s : List UInt8} (h : noteS s = true) : s.length ≤ 64 := by
  unfold noteS at h
  simp only [Bool.and_eq_true, decide_eq_true_eq] at h
  exact h.1
theorem Entry.ok_nums {e : Entry} (h : e.ok = true) : e.alarm.ok = true ∧ 1 ≤ e.state ∧ e.state ≤ 3 ∧ 1 ≤ e.count ∧ e.count ≤ 1048576 ∧ noteS e.note = true := by
  unfold Entry.ok at h
  simp only [Bool.and_eq_true, decide_eq_true_eq] at h
  exact ⟨h.1, h.2.1.1, h.2.1.2, h.2.2.1.1, h.2.2.1.2, h.2.2.2.1⟩
theorem ok_kind {x : Change} (h : x.ok = true) : 1 ≤ x.kind ∧ x.kind ≤ 5 := by
  rcases ok_cases h with h | h | h | h <;> omega
theorem stB_len {e : Entry} (h1 : 1 ≤ e.state ∧ e.state ≤ 3) (h2 : 1 ≤ e.count ∧ e.count ≤ 1048576) : (stB e).length ≤ 20 := by
  have l1 := lebB_10 (n := e.state.toNat) (by omega)
  have l2 := lebB_10 (n := e.count.toNat) (by omega)
  simp [stB]; omega
theorem tailB_len {x : Change} (h : x.ok = true) : (tailB x.kind x.entry).length ≤ 400 := by
  unfold tailB
  rcases ok_cases h with h | h | h | h
  · have := alB_len h.2.1
    rw [if_pos (.inl h.1), if_neg (by omega), if_neg (by omega)]
    simp; omega
  · have := txB_len (s := x.entry.note) (by have := noteS_len h.2.1; omega)
    have := noteS_len h.2.1
    rw [if_neg (by omega), if_neg (by omega), if_pos (.inl h.1)]
    simp; omega
  · rw [if_neg (by omega), if_neg (by omega), if_neg (by omega)]
    simp
  · obtain ⟨h5, h⟩ := h
    have q := Entry.ok_nums h
    have l1 := alB_len q.1
    have l2 := txB_len (s := x.entry.note) (by have := noteS_len q.2.2.2.2.2; omega)
    have := noteS_len q.2.2.2.2.2
    have l3 := stB_len ⟨q.2.1, q.2.2.1⟩ ⟨q.2.2.2.1, q.2.2.2.2.1⟩
    rw [if_pos (.inr h5), if_pos h5, if_pos (.inr h5)]
    simp; omega
theorem chB_len {x : Change} (h : x.ok = true) : (chB x).length ≤ 500 := by
  have l1 := tailB_len h
  have l2 := lebB_10 (n := x.kind.toNat) (by have := ok_kind h; omega)
  have l3 := fiB_len x.entry.finger.val
  simp [chB]; omega
theorem flat_len {l : List Change} (h : l.all Change.ok = true) : (l.flatMap chB).length ≤ 500 * l.length := by
  induction l with
  | nil => simp
  | cons x l ih =>
    simp only [List.all_cons, Bool.and_eq_true] at h
    have l1 := chB_len h.1
    have l2 := ih h.2
    simp only [List.flatMap_cons, List.length_append, List.length_cons]
    omega
theorem bodyB_len {l : List Change} (h : batch l = true) : (bodyB l).length ≤ 300000 := by
  unfold batch at h
  simp only [Bool.and_eq_true, decide_eq_true_eq] at h
  have l1 := flat_len h.1
  have l2 := lebB_10 (n := l.length) (by omega)
  simp only [bodyB, List.length_append]
  omega
theorem Change.aggAt10 (x : Change) : aggAt 10 x.c (0 + 1) = some (.agg x.entry.c) := rfl
theorem Change.fing (x : Change) : x.c[0 + 1 + 0]? = some (.int .u64 (x.entry.finger.val : Int)) := rfl
theorem put_step {J : Jn (AEnd × H)} {k : Nat} (hJ : rec_body.F D k J) {m0 m1 pen pi pe i f n : Nat} {x : Change} {A B C V : AV} {h h' : H} {b : List UInt8} (s : PS pen pi pe x.c b h) (hi : i < n) (hn : n < 100) (hx : ixSlice 1 V (.int .i64 i) = some (.rptr [Fn1 f] 0)) (e : D f [.agg [.ptr pen 0], .agg x.entry.c] h = some (.ret (.tuple []), h')) :
    rec_body.l1 J m0 (m1 + 1) (.ptr pi 0) (.ptr pe 0) A B C V (.int .i64 n) (.int .i64 i) h = rec_body.l1 J m0 m1 (.ptr pi 0) (.ptr pe 0) A B C V (.int .i64 n) (.int .i64 ((i + 1 : Nat) : Int)) h' := by
  rw [rec_body.l1_eq hJ]
  simp only [lssN, decide_eq_true hi, bind_some', condV_true, hx, ldCell_rptr]
  rw [show ([Fn1 f])[0]? = some (Fn1 f) from rfl]
  simp only [bind_some', ldA_at s.p, fAddr_ptr, ldA_at s.e, x.aggAt10]
  rw [show aggAt 1 [AV.ptr pen 0] 0 = some (.agg [.ptr pen 0]) from rfl]
  simp only [bind_some']
  rw [show AV.canon (.agg [.ptr pen 0]) = .agg [.ptr pen 0] from rfl, canon_agg, Entry.c_canon]
  rw [show ∀ a h, callVal D h (Fn1 f) a = D f a h from fun a h => by simp [callVal], e]
  simp only [bind_some', retOr_ret, add1 i (by omega)]
theorem put_end {J : Jn (AEnd × H)} {k : Nat} (hJ : rec_body.F D k J) {m0 m1 c n : Nat} (hc : c < 2 ^ 50) {X Y A B V : AV} {h : H} :
    rec_body.l1 J m0 (m1 + 1) X Y A B (.int .i64 c) V (.int .i64 n) (.int .i64 n) h = rec_body.l0 J m0 X A B (.int .i64 ((c + 1 : Nat) : Int)) h := by
  rw [rec_body.l1_eq hJ]
  simp only [lssN, decide_eq_false (show ¬ n < n by omega), bind_some', condV_false, add1 c (by omega)]
theorem puts_den {J : Jn (AEnd × H)} {k : Nat} (hJ : rec_body.F D k J) {m0 m1 pen pi pe c z : Nat} (hc : c < 2 ^ 50) {x : Change} (hx : x.ok = true) {A B : AV} {h : H} {b : List UInt8} (s : PS pen pi pe x.c b h) (hl : b.length ≤ 2 ^ 37) :
    ∃ V n h', (kindOf z x.kind)[0]? = some V ∧ lnSl V = some (.int .i64 n) ∧ rec_body.l1 J m0 (m1 + 4) (.ptr pi 0) (.ptr pe 0) A B (.int .i64 c) V (.int .i64 n) (.int .i64 0) h = rec_body.l0 J m0 (.ptr pi 0) A B (.int .i64 ((c + 1 : Nat) : Int)) h' ∧ Keep [pen] h h' ∧ PS pen pi pe x.c (b ++ tailB x.kind x.entry) h' := by
  rw [show (.int .i64 0 : AV) = .int .i64 ((0 : Nat) : Int) from rfl]
  unfold kindOf tailB
  rcases ok_cases hx with q | q | q | q
  · rw [if_pos q.1, if_pos (.inl q.1), if_neg (by omega), if_neg (by omega)]
    obtain ⟨h1, e1, k1, w1⟩ := penAlarm_den x.entry q.2.1 s.w (by omega)
    refine ⟨_, 1, h1, rfl, rfl, ?_, k1, by simpa using s.keep k1 w1⟩
    exact (put_step hJ s (i := 0) (n := 1) (by omega) (by omega) (f := n_rec_pen_alarm) rfl e1).trans (put_end hJ hc)
  · rw [if_neg (by omega), if_pos q.1, if_neg (by omega), if_neg (by omega), if_pos (.inl q.1)]
    obtain ⟨h1, e1, k1, w1⟩ := penNote_den x.entry (noteS_len q.2.1) s.w (by omega)
    refine ⟨_, 1, h1, rfl, rfl, ?_, k1, by simpa using s.keep k1 w1⟩
    exact (put_step hJ s (i := 0) (n := 1) (by omega) (by omega) (f := n_rec_pen_note) rfl e1).trans (put_end hJ hc)
  · have e : ∀ X Y : List AV, (if x.kind = 1 then X else if x.kind = 2 then Y else if x.kind = 3 then K3 else if x.kind = 4 then K3 else if x.kind = 5 then K5 else K0) = K3 := by
      intro X Y
      rw [if_neg (by omega), if_neg (by omega)]
      rcases q.1 with q | q
      · rw [if_pos q]
      · rw [if_neg (by omega), if_pos q]
    rw [e, if_neg (by omega), if_neg (by omega), if_neg (by omega)]
    refine ⟨_, 0, h, rfl, rfl, ?_, .refl _ _, by simpa using s⟩
    exact put_end hJ hc (n := 0)
  · obtain ⟨q, hq⟩ := q
    have r := Entry.ok_nums hq
    rw [if_neg (by omega), if_neg (by omega), if_neg (by omega), if_neg (by omega), if_pos q, if_pos (.inr q), if_pos q, if_pos (.inr q)]
    have a1 := alB_len r.1
    have a2 := stB_len ⟨r.2.1, r.2.2.1⟩ ⟨r.2.2.2.1, r.2.2.2.2.1⟩
    obtain ⟨h1, e1, k1, w1⟩ := penAlarm_den x.entry r.1 s.w (by omega)
    have s1 := s.keep k1 w1
    obtain ⟨h2, e2, k2, w2⟩ := penStand_den x.entry ⟨r.2.1, r.2.2.1⟩ ⟨r.2.2.2.1, r.2.2.2.2.1⟩ s1.w (by simp; omega)
    have s2 := s1.keep k2 w2
    obtain ⟨h3, e3, k3, w3⟩ := penNote_den x.entry (noteS_len r.2.2.2.2.2) s2.w (by simp; omega)
    refine ⟨_, 3, h3, rfl, rfl, ?_, k1.trans (k2.trans k3), by simpa [List.append_assoc] using s2.keep k3 w3⟩
    exact (put_step hJ s (i := 0) (n := 3) (by omega) (by omega) (f := n_rec_pen_alarm) rfl e1).trans ((put_step hJ s1 (i := 1) (n := 3) (by omega) (by omega) (f := n_rec_pen_stand) rfl e2).trans ((put_step hJ s2 (i := 2) (n := 3) (by omega) (by omega) (f := n_rec_pen_note) rfl e3).trans (put_end hJ hc)))
end Go.Proofs.YtdlnkfghgbddhaaGreat

open Go Go.Ve Go.Proofs
namespace Go.Proofs.YtdlnkfghgbddhaaGreat
set_option maxRecDepth 100000
set_option linter.all false
theorem cv32 (n : Nat) : cvInt .u32 (.int .u64 (n : Int)) = some (.int .u32 ((n % 4294967296 : Nat) : Int)) := by
  rw [cvInt_int]
  have e := wrap_32 (BitVec.ofNat 32 n)
  rw [BitVec.toNat_ofNat] at e
  have : IntKind.wrap .u32 (n : Int) = IntKind.wrap .u32 ((n % 2 ^ 32 : Nat) : Int) := by
    simp [IntKind.wrap, IntKind.bits, IntKind.signed]
  rw [this, e]
theorem kinds_keep (h : H) : Keep [] h ((h ++ [.arr [Fn1 n_rec_kinds_c1] false]) ++ [.map (kindsM h.length)]) := Keep.app.trans .app
theorem body_loop {J : Jn (AEnd × H)} {k : Nat} (hJ : rec_body.F D (k + 4) J) (pen pi : Nat) (hne : pi ≠ pen) (l : List Change) (hl : l.length ≤ 512) (hok : l.all Change.ok = true) : ∀ (d i m : Nat) (b : List UInt8) (h : H), i + d = l.length → d < m → h[pi]? = some (.arr [.ptr pen 0] false) → PenAt h pen b → b.length + 500 * d ≤ 2 ^ 30 →
    ∃ h', rec_body.l0 J m (.ptr pi 0) (CL l) (.int .i64 l.length) (.int .i64 i) h = some (.ret (BL (b ++ (l.drop i).flatMap chB) (.own 1)), h') ∧ Keep [pen] h h'
  | 0, i, m + 1, b, h, hi, _, hp, w, hb => by
    rw [rec_body.l0_eq hJ, List.drop_of_length_le (by omega), List.flatMap_nil, List.append_nil]
    refine ⟨h, ?_, .refl _ _⟩
    simp only [lssN, decide_eq_false (show ¬ i < l.length by omega), bind_some', condV_false, fAddr_ptr, ld_at hp, ptr0, canon_ptr, penBytes_den h pen b w (by omega), retOr_ret]
  | d + 1, i, m + 1, b, h, hi, hm, hp, w, hb => by
    have hil : i < l.length := by omega
    have hx : l[i].ok = true := List.all_eq_true.mp hok _ (List.getElem_mem hil)
    rw [rec_body.l0_eq hJ, List.drop_eq_getElem_cons hil, List.flatMap_cons]
    generalize hxx : l[i] = x at hx
    have hk := ok_kind hx
    obtain ⟨G, hG⟩ : ∃ G, G = h ++ [AObj.arr x.c false] := ⟨_, rfl⟩
    have kG : Keep [] h G := hG ▸ Keep.app
    have lp := w.lt
    have s0 : PS pen pi h.length x.c b G := ⟨kG.get hp (by simp), hG ▸ get_new, Keep.pen kG w (by simp), hne, by omega⟩
    have st : stN 11 (h ++ [AObj.arr [.int .i64 0, .int .u64 0, .int .i64 0, .int .i64 0, .str [], .str [], .int .i64 0, .str [], .int .i64 0, .int .i64 0, .str []] false]) (.ptr h.length 0) (.agg x.c) = some (.undef, G) := by
      rw [st_agg (n := 11) get_new (by rw [Change.c_len]; decide) x.c_len x.c_one, set_new, hG]
      simp
    have l1 := lebB_10 (n := x.kind.toNat) (by omega)
    have l2 := chB_len hx
    obtain ⟨h1, e1, k1, s1⟩ := s0.num x.kind.toNat (by omega) (by omega)
    obtain ⟨h2, e2, k2, s2⟩ := s1.word (x.entry.finger.val % 4294967296) (by simp; omega)
    obtain ⟨h3, e3, k3, s3⟩ := s2.word (x.entry.finger.val / 4294967296) (by simp [wdB]; omega)
    have kk := kinds_keep h3
    have s4 := PS.keep s3 kk.nil (Keep.pen kk s3.w (by simp))
    have gm : ((h3 ++ [AObj.arr [Fn1 n_rec_kinds_c1] false]) ++ [AObj.map (kindsM h3.length)])[h3.length + 1]? = some (.map (kindsM h3.length)) := by
      have := get_new (h := h3 ++ [AObj.arr [Fn1 n_rec_kinds_c1] false]) (x := .map (kindsM h3.length))
      simpa using this
    have ek := kinds_den h3
    generalize hH : ((h3 ++ [AObj.arr [Fn1 n_rec_kinds_c1] false]) ++ [AObj.map (kindsM h3.length)]) = h4 at kk s4 gm ek
    obtain ⟨V, n, h5, v1, v2, v3, k5, s5⟩ := puts_den (z := h3.length) hJ (m0 := m) (m1 := k) (c := i) (A := CL l) (B := .int .i64 l.length) (by omega) hx s4 (by simp [wdB]; omega)
    obtain ⟨h', e', k'⟩ := body_loop hJ pen pi hne l hl hok d (i + 1) m _ h5 (by omega) (by omega) s5.p s5.w (by simp [chB, fiB, wdB] at l2 ⊢; omega)
    refine ⟨h', ?_, (kG.nil.trans (k1.trans (k2.trans (k3.trans (kk.nil.trans (k5.trans k'))))))⟩
    simp only [lssN, decide_eq_true hil, bind_some', condV_true, CL_at hil, hxx, ldAgg_rptr, Change.agg, copy_agg, Change.c_copy, st, fAddr_ptr, ld_at s0.p, ptr0, ld_at s0.e, x.c0, cvU (show 0 ≤ x.kind by omega) (show x.kind ≤ 2 ^ 62 by omega), canon_ptr, canon_int, e1, retOr_ret]
    have q : x.entry.finger.val / 4294967296 % 4294967296 = x.entry.finger.val / 4294967296 := Nat.mod_eq_of_lt (by have := x.entry.finger.isLt; omega)
    have sh := shr_u64 (n := x.entry.finger.val) (k := 32) (by omega)
    rw [show ((2 : Nat) ^ 32) = 4294967296 from rfl, show (((32 : Nat) : Int)) = 32 from rfl] at sh
    simp only [ld_at s1.p, ptr0, ld_at s1.e, x.fing, bind_some', cv32, canon_ptr, canon_int, e2, retOr_ret, ld_at s2.p, ld_at s2.e, sh, q, e3, ek]
    have lk := lk_kinds gm x.kind false
    rw [show (AV.agg K0) = .agg [.list [] .cap, .list [] .cap, .nilFunc] from rfl] at lk
    simp only [ld_at s4.e, ld_at s3.e, x.c0, bind_some', eqO, eqb_self, whenB_true, lk, Bool.false_eq_true, if_false, fCell_agg, v1, v2]
    refine v3.trans (e'.trans ?_)
    simp [chB, fiB, List.append_assoc]
theorem body_den (l : List Change) (hb : batch l = true) (h : H) : D n_rec_body [CL l] h = some (.ret (BL (bodyB l) (.own 1)), h) := by
  unfold batch at hb
  simp only [Bool.and_eq_true, decide_eq_true_eq] at hb
  obtain ⟨h1, e1, k1, w1⟩ := new_den []
  obtain ⟨G, hG⟩ : ∃ G, G = h1 ++ [AObj.arr [.ptr 0 0] false] := ⟨_, rfl⟩
  have kG : Keep [] h1 G := hG ▸ Keep.app
  have st : stN 1 (h1 ++ [AObj.arr [.nilPtr] false]) (.ptr h1.length 0) (.agg [.ptr 0 0]) = some (.undef, G) := by
    rw [st_agg (n := 1) get_new (by simp) rfl rfl, set_new, hG]
    rfl
  have gp : G[h1.length]? = some (.arr [.ptr 0 0] false) := hG ▸ get_new
  have l10 := lebB_10 (n := l.length) (by omega)
  have lw := w1.lt
  simp only [List.length_nil] at w1 lw e1
  obtain ⟨h2, e2, k2, w2⟩ := penU_den G 0 l.length [] (Keep.pen kG w1 (by simp)) (by omega) (by simp)
  obtain ⟨h3, e3, k3⟩ := body_loop (rec_body.fx (l.length + 4)) 0 h1.length (by omega) l hb.2.2 hb.1 l.length 0 (l.length + 4) _ h2 (by omega) (by omega) (k2.get gp (by simp only [List.mem_singleton]; omega)) w2 (by simp; omega)
  refine rec_body.den (l.length + 4) (by simp) (h' := h3) ?_ (by simp [AV.pure]) rfl
  rw [rec_body.f_eq (rec_body.fx _)]
  simp only [e1, bind_some', retOr_ret, copy_ptr]
  rw [show mkAgg [.nilPtr] [(0, 1, .ptr 0 0)] = some (.agg [.ptr 0 0]) from rfl]
  simp only [bind_some', st, fAddr_ptr, ld_at gp, ptr0, CL_len, cvInt_int, wrap_u64 (show (0 : Int) ≤ (l.length : Int) by omega) (show (l.length : Int) ≤ 18446744073709551615 by omega), canon_ptr, canon_int, e2, retOr_ret]
  exact e3
theorem bc1_den (x : Change) (h : H) : callVal D h (.func (.func n_rec_batch_c1) [] []) [.agg x.c] = some (.ret (.bool (!x.ok)), h) := by
  refine rec_batch_c1.den 1 (by simp [pureL, AV.pure]) (h' := [.arr x.c false]) ?_ rfl rfl
  have g : ([AObj.arr x.c false] : H)[0]? = some (.arr x.c false) := rfl
  rw [rec_batch_c1.f_eq (rec_batch_c1.fx _)]
  rw [copy_agg, Change.c_copy, bx_agg x.c_one]
  simp only [bind_some', List.length_nil, List.nil_append, ldA_at g, Change.agg, canon_agg, Change.c_canon, check_den, retOr_ret, bin_neq, copy_bool]
  cases x.ok <;> rfl
theorem bad_loop {J : Jn (AEnd × H)} {k : Nat} (hJ : slices_IndexFunc_api_Change_api_Change.F D k J) (l : List Change) (hl : l.length ≤ 2 ^ 50) (h : H) : ∀ (d i m : Nat), i + d = l.length → d < m →
    ∃ r, slices_IndexFunc_api_Change_api_Change.l0 J m (CL l) (.func (.func n_rec_batch_c1) [] []) (.int .i64 l.length) (.int .i64 i) h = some (.ret (.int .i64 r), h) ∧ (r ≥ 0 ↔ (l.drop i).all Change.ok = false)
  | 0, i, m + 1, hi, _ => by
    rw [slices_IndexFunc_api_Change_api_Change.l0_eq hJ, List.drop_of_length_le (by omega)]
    refine ⟨-1, ?_, by simp⟩
    simp only [lssN, decide_eq_false (show ¬ i < l.length by omega), bind_some', condV_false]
  | d + 1, i, m + 1, hi, hm => by
    have hil : i < l.length := by omega
    obtain ⟨r, e, q⟩ := bad_loop hJ l hl h d (i + 1) m (by omega) (by omega)
    rw [slices_IndexFunc_api_Change_api_Change.l0_eq hJ, List.drop_eq_getElem_cons hil, List.all_cons]
    simp only [lssN, decide_eq_true hil, bind_some', condV_true, CL_at hil, ldAgg_rptr, Change.agg, canon_agg, Change.c_canon, bc1_den, retOr_ret, add1 i (by omega), copy_int]
    cases l[i].ok with
    | false => exact ⟨i, rfl, by simp⟩
    | true => exact ⟨r, e, by simpa using q⟩
theorem batch_den (l : List Change) (hl : l.length ≤ 2 ^ 50) (h : H) : D n_rec_batch [CL l] h = some (.ret (.bool (batch l)), h) := by
  obtain ⟨r, e, q⟩ := bad_loop (slices_IndexFunc_api_Change_api_Change.fx (l.length + 1)) l hl [] l.length 0 (l.length + 1) (by omega) (by omega)
  have d1 : ∀ h, D n_slices_IndexFunc_api_Change_api_Change [CL l, .func (.func n_rec_batch_c1) [] []] h = some (.ret (.int .i64 r), h) := by
    intro h
    refine slices_IndexFunc_api_Change_api_Change.den (l.length + 1) (by simp [pureL, AV.pure]) (h' := []) ?_ rfl rfl
    rw [slices_IndexFunc_api_Change_api_Change.f_eq (slices_IndexFunc_api_Change_api_Change.fx _)]
    simp only [CL_len, bind_some']
    exact e
  have d2 : ∀ h, D n_slices_ContainsFunc_api_Change_api_Change [CL l, .func (.func n_rec_batch_c1) [] []] h = some (.ret (.bool (decide (r ≥ 0))), h) := by
    intro h
    refine slices_ContainsFunc_api_Change_api_Change.den 1 (by simp [pureL, AV.pure]) (h' := []) ?_ rfl rfl
    rw [slices_ContainsFunc_api_Change_api_Change.f_eq (slices_ContainsFunc_api_Change_api_Change.fx _)]
    simp only [canon_list, canon_func, d1, bind_some', retOr_ret, bin_geq, copy_bool]
  refine rec_batch.den 1 (by simp) (h' := []) ?_ rfl rfl
  rw [rec_batch.f_eq (rec_batch.fx _), show (.int .i64 1 : AV) = .int .i64 ((1 : Nat) : Int) from rfl, show (.int .i64 512 : AV) = .int .i64 ((512 : Nat) : Int) from rfl]
  simp only [CL_len, bind_some', geqN, leqN, canon_list, canon_func, d2, retOr_ret, not_bool, copy_bool]
  have q' : (!decide (r ≥ 0)) = l.all Change.ok := by
    rw [List.drop_zero] at q
    cases hx : l.all Change.ok with
    | true => rw [hx] at q; simp only [Bool.not_eq_eq_eq_not, Bool.not_true, decide_eq_false_iff_not]; intro h; exact Bool.noConfusion (q.1 h)
    | false => rw [hx] at q; simp only [Bool.not_eq_eq_eq_not, Bool.not_false, decide_eq_true_eq]; exact q.2 rfl
  rw [q']
  unfold batch
  cases l.all Change.ok <;> cases decide (1 ≤ l.length) <;> cases decide (l.length ≤ 512) <;> rfl
def frame (b : List UInt8) : List UInt8 := txB b ++ wdB (crcB (txB b)).toNat
end Go.Proofs.YtdlnkfghgbddhaaGreat
