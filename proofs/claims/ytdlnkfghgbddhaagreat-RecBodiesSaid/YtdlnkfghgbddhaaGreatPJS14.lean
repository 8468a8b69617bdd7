/- What the functions of the records' layer come to: 14: the program's checks of alarms and entries. -/
import Derived.Test.YtdlnkfghgbddhaaGreatPJS13
set_option linter.all false

open Go Go.Ve Go.Proofs
namespace Go.Proofs.YtdlnkfghgbddhaaGreat
set_option maxRecDepth 100000
set_option linter.all false

theorem vars_den (h : H) : D n_prog_vars [.list [] .no] h = some (.ret (.bool true), h) := den_any (by kernel_rfl) (acall_den 40 n_prog_vars [.list [] .no] [] (.ret (.bool true), []) (by kernel_rfl)) h
theorem canon_fn {f : Fn} {a b : List AV} : AV.canon (.func f a b) = .func f a b := (Eq.refl _).trans rfl
/-- A spot's cells. -/
def spotC (a : Alarm) : List AV := [.str a.func, .str a.file, .int .i64 a.line]
def spotOk (a : Alarm) : Bool := namS morB 32 a.func && (namS patB 64 a.file && (decide (1 ≤ a.line) && decide (a.line ≤ 1048576)))
theorem one_den (x n : Int) (h : H) : D n_prog_one [.int .i64 x, .int .i64 n] h = some (.ret (.bool (decide (1 ≤ x) && decide (x ≤ n))), h) := by
  refine prog_one.den 0 rfl (h' := []) ?_ rfl rfl
  rw [prog_one.f_eq (prog_one.fx _)]
  simp only [geqF, bin_leq, bind_some', copy_bool]
  cases decide (1 ≤ x) <;> rfl
theorem spot_den (a : Alarm) (h : H) : D n_prog_spot [.agg (spotC a)] h = some (.ret (.bool (spotOk a)), h) := by
  refine prog_spot.den 0 rfl (h' := [.arr (spotC a) false]) ?_ rfl rfl
  rw [prog_spot.f_eq (prog_spot.fx _)]
  have g : ([AObj.arr (spotC a) false] : H)[0]? = some (.arr (spotC a) false) := rfl
  have c0 : (spotC a)[0 + 0]? = some (.str a.func) := rfl
  have c1 : (spotC a)[0 + 1]? = some (.str a.file) := rfl
  have c2 : (spotC a)[0 + 2]? = some (.int .i64 a.line) := rfl
  rw [show AV.copy (.agg (spotC a)) = .agg (spotC a) from rfl, bx_agg (cs := spotC a) rfl]
  simp only [bind_some', List.length_nil, List.nil_append, fAddr_ptr, ld_at g, c0, c1, c2, canon_str, canon_int, canon_func, pname_den, pfile_den, one_den, retOr_ret, copy_bool]
  unfold spotOk
  cases namS morB 32 a.func <;> cases namS patB 64 a.file <;> rfl
theorem c2_den (a : Alarm) (h : H) : callVal D h (.func (.func n_prog_Check_c2) [] []) [.agg (spotC a)] = some (.ret (.bool (!spotOk a)), h) := by
  refine prog_Check_c2.den 0 rfl (h' := [.arr (spotC a) false]) ?_ rfl rfl
  rw [prog_Check_c2.f_eq (prog_Check_c2.fx _)]
  have g : ([AObj.arr (spotC a) false] : H)[0]? = some (.arr (spotC a) false) := rfl
  have c0 : aggAt 3 (spotC a) 0 = some (.agg (spotC a)) := rfl
  rw [show AV.copy (.agg (spotC a)) = .agg (spotC a) from rfl, bx_agg (cs := spotC a) rfl]
  simp only [bind_some', List.length_nil, List.nil_append, ldA_at g, c0]
  rw [show AV.canon (.agg (spotC a)) = .agg (spotC a) from rfl]
  simp only [spot_den, retOr_ret, bind_some', not_bool, copy_bool]
theorem spots_den (a : Alarm) (h : H) : D n_slices_ContainsFunc_api_Spot_api_Spot [.list [spotC a] .no, .func (.func n_prog_Check_c2) [] []] h = some (.ret (.bool (!spotOk a)), h) := by
  have e : ∀ h, D n_slices_IndexFunc_api_Spot_api_Spot [.list [spotC a] .no, .func (.func n_prog_Check_c2) [] []] h = some (.ret (.int .i64 (if spotOk a then -1 else 0)), h) := by
    intro h
    refine slices_IndexFunc_api_Spot_api_Spot.den 3 rfl (h' := []) ?_ rfl rfl
    rw [slices_IndexFunc_api_Spot_api_Spot.f_eq (slices_IndexFunc_api_Spot_api_Spot.fx _)]
    rw [show lnSl (.list [spotC a] .no) = some (.int .i64 1) from rfl]
    simp only [bind_some']
    rw [slices_IndexFunc_api_Spot_api_Spot.l0_eq (slices_IndexFunc_api_Spot_api_Spot.fx _)]
    rw [show bin .lss (.int .i64 0) (.int .i64 1) = some (.bool true) from rfl]
    simp only [bind_some', condV_true]
    rw [show ixSlice 3 (.list [spotC a] .no) (.int .i64 0) = some (.rptr (spotC a) 0) from rfl]
    simp only [bind_some', ldAgg_rptr]
    rw [show aggAt 3 (spotC a) 0 = some (.agg (spotC a)) from rfl]
    simp only [bind_some']
    rw [show AV.canon (.agg (spotC a)) = .agg (spotC a) from rfl]
    simp only [c2_den, bind_some', retOr_ret]
    cases spotOk a with
    | false => rfl
    | true =>
      rw [show bin .add (.int .i64 0) (.int .i64 1) = some (.int .i64 1) from rfl]
      simp only [Bool.not_true, condV_false, bind_some']
      rw [slices_IndexFunc_api_Spot_api_Spot.l0_eq (slices_IndexFunc_api_Spot_api_Spot.fx _)]
      rw [show bin .lss (.int .i64 1) (.int .i64 1) = some (.bool false) from rfl]
      rfl
  refine slices_ContainsFunc_api_Spot_api_Spot.den 0 rfl (h' := []) ?_ rfl rfl
  rw [slices_ContainsFunc_api_Spot_api_Spot.f_eq (slices_ContainsFunc_api_Spot_api_Spot.fx _)]
  simp only [canon_list, canon_func, e, bind_some', retOr_ret, bin_geq, copy_bool]
  cases spotOk a <;> rfl
theorem edges_den (f : Nat) (cap : List AV) (h : H) : D n_slices_ContainsFunc_api_Edge_api_Edge [.list [] .no, .func (.func f) [] cap] h = some (.ret (.bool false), h) := by
  have e : ∀ cap, D n_slices_IndexFunc_api_Edge_api_Edge [.list [] .no, .func (.func f) [] cap] h = some (.ret (.int .i64 (-1)), h) := by
    intro cap
    refine slices_IndexFunc_api_Edge_api_Edge.den 3 ?_ rfl
    rw [slices_IndexFunc_api_Edge_api_Edge.f_eq (slices_IndexFunc_api_Edge_api_Edge.fx _)]
    rw [show lnSl (.list [] .no) = some (.int .i64 0) from rfl]
    simp only [bind_some']
    rw [slices_IndexFunc_api_Edge_api_Edge.l0_eq (slices_IndexFunc_api_Edge_api_Edge.fx _)]
    rw [show bin .lss (.int .i64 0) (.int .i64 0) = some (.bool false) from rfl]
    rfl
  refine slices_ContainsFunc_api_Edge_api_Edge.den 1 ?_ rfl
  rw [slices_ContainsFunc_api_Edge_api_Edge.f_eq (slices_ContainsFunc_api_Edge_api_Edge.fx _)]
  simp only [canon_list, canon_fn, e, bind_some', retOr_ret]
  rfl
end Go.Proofs.YtdlnkfghgbddhaaGreat
