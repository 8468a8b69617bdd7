/- The law of the checks: it answers true. -/
import Derived.Test.YtdlnkfghgbddhaaGreatPJS16
import Derived.Test.YtdlnkfghgbddhaaGreatPJL
set_option linter.all false

open Go Go.Ve Go.Proofs
namespace Go.Proofs.YtdlnkfghgbddhaaGreat
set_option maxRecDepth 100000
set_option linter.all false

theorem row_change (x : Change) : mkRows 11 [.int .i64 0, .int .u64 0, .int .i64 0, .int .i64 0, .str [], .str [], .int .i64 0, .str [], .int .i64 0, .int .i64 0, .str []] 1 [(0, .agg x.c)] = some (CL [x] .cap) := rfl
theorem checks_law (e : Entry) (x : Change) (a : List Change) (h : H) : D n_warrantorlaw27_RecChecks [.agg e.c, .agg x.c, CL a] h = some (.ret (.bool true), h) := by
  have g0 : ([AObj.arr e.c false, AObj.arr x.c false] : H)[0]? = some (.arr e.c false) := rfl
  have g1 : ([AObj.arr e.c false, AObj.arr x.c false] : H)[1]? = some (.arr x.c false) := rfl
  have ej0 (he : e.big = false) (hx : large [x] 1 = false) (hl : large a 60 = false) : warrantorlaw27_RecChecks.j0 (warrantorlaw27_RecChecks.JD 1) (CL a) (.ptr 0 0) (.ptr 1 0) [AObj.arr e.c false, AObj.arr x.c false] = some (.ret (.bool true), [AObj.arr e.c false, AObj.arr x.c false]) := by
    have fe := Entry.fit_of he
    have ha : a.length ≤ 2 ^ 50 := Nat.le_trans (large_fit hl).1 (by decide)
    have fx := Entry.fit_of ((large_fit hx).2 x (by simp))
    rw [warrantorlaw27_RecChecks.j0_eq (warrantorlaw27_RecChecks.fx 1)]
    simp only [ldA_at g1, ldA_at g0, Change.agg, Entry.agg, bind_some', canon_agg, Change.c_canon, Entry.c_canon, check_den, retOr_ret, lives27_den, condV_true, right_den, rRight_den e fe, rCheck_den x fx, binBool_eql, beq_self_eq_true, bin_eql, row_change, canon_list, same_den a [x] ha, rsame_den a [x] ha, copy_bool]
    cases hk : x.ok with
    | true => rfl
    | false => rfl
  have ej : ∀ b, (b = false → e.big = false ∧ large [x] 1 = false ∧ large a 60 = false) → warrantorlaw27_RecChecks.j1 (warrantorlaw27_RecChecks.JD 1) (CL a) (.ptr 0 0) (.ptr 1 0) (.bool b) [AObj.arr e.c false, AObj.arr x.c false] = some (.ret (.bool true), [AObj.arr e.c false, AObj.arr x.c false]) := by
    intro b hb
    rw [warrantorlaw27_RecChecks.j1_eq (warrantorlaw27_RecChecks.fx 1)]
    cases b with
    | true => simp only [condV_true, lives27_den, bind_some', retOr_ret]
    | false => simp only [condV_false, ej0 (hb rfl).1 (hb rfl).2.1 (hb rfl).2.2]
  have l1 := large_den [x] 1 (by decide)
  have l60 := large_den a 60 (by decide)
  rw [show (((1 : Nat) : Int)) = 1 from rfl] at l1
  rw [show (((60 : Nat) : Int)) = 60 from rfl] at l60
  refine warrantorlaw27_RecChecks.den 1 (by simp [pureL, AV.pure]) (h' := [AObj.arr e.c false, AObj.arr x.c false]) ?_ rfl rfl
  rw [warrantorlaw27_RecChecks.f_eq (warrantorlaw27_RecChecks.fx 1)]
  simp only [copy_agg, Entry.c_copy, Change.c_copy, bx_agg e.c_one, bx_agg x.c_one, bind_some', List.length_nil, List.nil_append, List.length_singleton]
  rw [show ([AObj.arr e.c false] ++ [AObj.arr x.c false] : H) = [AObj.arr e.c false, AObj.arr x.c false] from rfl]
  simp only [ldA_at g1, ldA_at g0, Change.agg, Entry.agg, bind_some', canon_agg, Change.c_canon, Entry.c_canon, eLarge_den, retOr_ret, row_change, canon_list, canon_int, l1, l60]
  cases he : e.big with
  | true => simp only [condV_true]; exact ej true (fun h => nomatch h)
  | false =>
    simp only [condV_false]
    cases hx : large [x] 1 with
    | true => simp only [condV_true]; exact ej true (fun h => nomatch h)
    | false => simp only [condV_false]; exact ej _ (fun hb => ⟨he, hx, hb⟩)
end Go.Proofs.YtdlnkfghgbddhaaGreat
