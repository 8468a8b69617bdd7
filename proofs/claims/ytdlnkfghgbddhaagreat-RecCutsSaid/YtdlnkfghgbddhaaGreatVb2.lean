import Derived.Test.YtdlnkfghgbddhaaGreatVb1
import Derived.Laws.RangeString
import Derived.Laws.RangeAny
set_option linter.all false
open Go Go.Ve Go.Proofs
namespace Go.Proofs.YtdlnkfghgbddhaaGreat
set_option maxRecDepth 100000
set_option linter.all false
theorem dFail_den {h : H} {id e : Nat} {r : Rd} {o : Own} (hr : RdC h id r o) (he : e ≠ 0) : D n_warrantorref02_Reader_Fail [.ptr id 0, .int .i64 e] h = some (.ret (.tuple []), if r.e = 0 then h.set id (.arr ({ r with e := e }.cells o) false) else h) := by
  refine ref02_Reader_Fail.den 1 ?_ rfl
  rw [ref02_Reader_Fail.f_eq (ref02_Reader_Fail.fx 1)]
  simp only [bin_eql, bind_some', decide_eq_false (show ¬ ((e : Int) = 0) by omega), condV_false]
  rw [ref02_Reader_Fail.j0_eq (ref02_Reader_Fail.fx 1)]
  simp only [bind_some', nilOk_ptr, fAddr_ptr, ld_at hr, cell2, bin_eql]
  by_cases h0 : r.e = 0
  · simp only [if_pos h0, decide_eq_true (show ((r.e : Int) = 0) by omega), condV_true, copy_int, st_e hr, bind_some']
  · simp only [if_neg h0, decide_eq_false (show ¬ ((r.e : Int) = 0) by omega), condV_false]
theorem dU_den {h : H} {id : Nat} {r : Rd} {o : Own} (hr : RdC h id r o) (hk : r.ok) : ∃ h', D n_warrantorref02_Reader_U [.ptr id 0] h = some (.ret (.int .u64 (rdU r).1), h') ∧ Keep [id] h h' ∧ RdC h' id (rdU r).2 o := by
  obtain ⟨h1, h2, h3⟩ := hk
  have f := lebG_facts (r.b.drop r.p)
  rw [List.length_drop] at f
  have step : ∀ {v : AV} {h' : H}, ref02_Reader_U.f (ref02_Reader_U.JD 1) (.ptr id 0) h = some (.ret v, h') → retOk Tryz.f119 (.ret v) = true → D n_warrantorref02_Reader_U [.ptr id 0] h = some (.ret v, h') := fun {v h'} e hx => ref02_Reader_U.den 1 e hx
  rw [ref02_Reader_U.f_eq (ref02_Reader_U.fx 1)] at step
  simp only [nilOk_ptr, fAddr_ptr, bind_some', ld_at hr, cell0, cell1, cell2, bin_neq] at step
  unfold rdU
  by_cases he : r.e = 0
  · rw [if_neg (by omega)]
    simp only [decide_eq_false (show ¬ ((r.e : Int) ≠ 0) by omega), condV_false, BL_from h1, BL_canon, rGet_den (r.b.drop r.p) (by rw [List.length_drop]; omega) h, bind_some', retOr_ret, exTuple_eq] at step
    rw [show ([AV.int .u64 ((lebG (r.b.drop r.p)).1 : Int), .int .i64 ((lebG (r.b.drop r.p)).2.1 : Int), .int .i64 ((lebG (r.b.drop r.p)).2.2 : Int)])[0]? = some (.int .u64 ((lebG (r.b.drop r.p)).1 : Int)) from rfl, show ([AV.int .u64 ((lebG (r.b.drop r.p)).1 : Int), .int .i64 ((lebG (r.b.drop r.p)).2.1 : Int), .int .i64 ((lebG (r.b.drop r.p)).2.2 : Int)])[1]? = some (.int .i64 ((lebG (r.b.drop r.p)).2.1 : Int)) from rfl, show ([AV.int .u64 ((lebG (r.b.drop r.p)).1 : Int), .int .i64 ((lebG (r.b.drop r.p)).2.1 : Int), .int .i64 ((lebG (r.b.drop r.p)).2.2 : Int)])[2]? = some (.int .i64 ((lebG (r.b.drop r.p)).2.2 : Int)) from rfl] at step
    simp only [bind_some', bin_neq] at step
    by_cases hl : (lebG (r.b.drop r.p)).2.2 = 0
    · rw [if_neg (by omega)]
      simp only [decide_eq_false (show ¬ (((lebG (r.b.drop r.p)).2.2 : Int) ≠ 0) by omega), condV_false, nilOk_ptr, fAddr_ptr, bind_some', ld_at hr, cell1, bin_add, copy_int] at step
      rw [wrap_i64 (by omega) (by omega), show ((r.p : Int) + ((lebG (r.b.drop r.p)).2.1 : Int)) = ((r.p + (lebG (r.b.drop r.p)).2.1 : Nat) : Int) from rfl, st_p hr] at step
      exact ⟨_, step rfl rfl, .set (by simp), get_set hr⟩
    · rw [if_pos hl]
      have ef := dFail_den hr (e := (lebG (r.b.drop r.p)).2.2) hl
      rw [if_pos he] at ef
      simp only [decide_eq_true (show (((lebG (r.b.drop r.p)).2.2 : Int) ≠ 0) by omega), condV_true, canon_ptr, canon_int, ef, bind_some', retOr_ret] at step
      exact ⟨_, step rfl rfl, .set (by simp), get_set hr⟩
  · rw [if_pos he]
    simp only [decide_eq_true (show ((r.e : Int) ≠ 0) by omega), condV_true] at step
    exact ⟨_, step rfl rfl, .refl _ _, hr⟩
theorem dTake_den {h : H} {id n : Nat} {r : Rd} {o : Own} (hr : RdC h id r o) (hk : r.ok) (hn : n ≤ 2 ^ 40) :
    ∃ h', Keep [id] h h' ∧ (if r.e ≠ 0 then D n_warrantorref02_Reader_take [.ptr id 0, .int .i64 n] h = some (.ret (BL [] .cap), h') ∧ RdC h' id r o else if r.b.length - r.p < n then D n_warrantorref02_Reader_take [.ptr id 0, .int .i64 n] h = some (.ret (BL [] .cap), h') ∧ RdC h' id { r with e := 10 } o
      else D n_warrantorref02_Reader_take [.ptr id 0, .int .i64 n] h = some (.ret (BL ((r.b.drop r.p).take n)), h') ∧ RdC h' id { r with p := r.p + n } o) := by
  obtain ⟨h1, h2, h3⟩ := hk
  have step : ∀ {v : AV} {h' : H}, ref02_Reader_take.f (ref02_Reader_take.JD 1) (.ptr id 0) (.int .i64 n) h = some (.ret v, h') → retOk Tryz.f152 (.ret v) = true → D n_warrantorref02_Reader_take [.ptr id 0, .int .i64 n] h = some (.ret v, h') := fun {v h'} e hx => ref02_Reader_take.den 1 e hx
  rw [ref02_Reader_take.f_eq (ref02_Reader_take.fx 1)] at step
  simp only [nilOk_ptr, fAddr_ptr, bind_some', ld_at hr, cell0, cell1, cell2, bin_neq, BL_len, bin_sub, bin_gtr] at step
  by_cases he : r.e = 0
  · simp only [if_neg (show ¬ (r.e ≠ 0) by omega)]
    simp only [decide_eq_false (show ¬ ((r.e : Int) ≠ 0) by omega), condV_false, wrap_i64 (show (-9223372036854775808 : Int) ≤ (r.b.length : Int) - (r.p : Int) by omega) (show (r.b.length : Int) - (r.p : Int) ≤ 9223372036854775807 by omega)] at step
    by_cases hx : r.b.length - r.p < n
    · simp only [if_pos hx]
      have ef := dFail_den hr (e := 10) (by decide)
      rw [if_pos he, show (((10 : Nat) : Int)) = 10 from rfl] at ef
      simp only [decide_eq_true (show ((n : Int) > (r.b.length : Int) - (r.p : Int)) by omega), condV_true, canon_ptr, canon_int, ef, bind_some', retOr_ret] at step
      exact ⟨_, .set (by simp), step rfl rfl, get_set hr⟩
    · simp only [if_neg hx]
      have hr' : RdC (h.set id (.arr ({ r with p := r.p + n }.cells o) false)) id { r with p := r.p + n } o := get_set hr
      simp only [decide_eq_false (show ¬ ((n : Int) > (r.b.length : Int) - (r.p : Int)) by omega), condV_false, copy_int, bin_add] at step
      rw [wrap_i64 (by omega) (by omega), show ((r.p : Int) + (n : Int)) = ((r.p + n : Nat) : Int) from rfl] at step
      simp only [bind_some', copy_int, st_p hr, ld_at hr', cell0, cell1, bin_sub] at step
      rw [show (((r.p + n : Nat) : Int) - (n : Int)) = ((r.p : Nat) : Int) by omega, wrap_i64 (by omega) (by omega)] at step
      rw [BL_both (by omega) (by omega)] at step
      rw [List.drop_take, show r.p + n - r.p = n by omega] at step
      exact ⟨_, .set (by simp), step rfl rfl, hr'⟩
  · simp only [if_pos (show r.e ≠ 0 from he)]
    simp only [decide_eq_true (show ((r.e : Int) ≠ 0) by omega), condV_true] at step
    exact ⟨_, .refl _ _, step rfl rfl, hr⟩
theorem dCountC_den {h : H} {id m : Nat} {r : Rd} {o : Own} (hr : RdC h id r o) (hk : r.ok) (hm : m ≤ 2 ^ 40) : ∃ h', D n_warrantorref02_Reader_Count [.ptr id 0, .int .i64 m] h = some (.ret (.int .i64 (rdN m r).1), h') ∧ Keep [id] h h' ∧ RdC h' id (rdN m r).2 o := by
  have f := lebG_facts (r.b.drop r.p)
  rw [List.length_drop] at f
  obtain ⟨h', e, k, r'⟩ := dU_den hr hk
  have step : ∀ {v : AV} {h' : H}, ref02_Reader_Count.f (ref02_Reader_Count.JD 1) (.ptr id 0) (.int .i64 m) h = some (.ret v, h') → retOk Tryz.f71 (.ret v) = true → D n_warrantorref02_Reader_Count [.ptr id 0, .int .i64 m] h = some (.ret v, h') := fun {v h'} e hx => ref02_Reader_Count.den 1 e hx
  rw [ref02_Reader_Count.f_eq (ref02_Reader_Count.fx 1)] at step
  simp only [nilOk_ptr, fAddr_ptr, bind_some', ld_at hr, cell1, canon_ptr, e, retOr_ret, ld_at r', cell2, bin_neq] at step
  unfold rdU at r' step
  unfold rdN
  by_cases he : r.e = 0
  · rw [if_neg (by omega)] at r' step ⊢
    by_cases hl : (lebG (r.b.drop r.p)).2.2 = 0
    · rw [if_neg (by omega)] at r' ⊢
      rw [if_neg (by omega)] at step
      simp only [decide_eq_false (show ¬ ((r.e : Int) ≠ 0) by omega), condV_false, bin_lss, bind_some', decide_eq_false (show ¬ ((m : Int) < 0) by omega), cvInt_int, wrap_u64 (show (0 : Int) ≤ (m : Int) by omega) (show (m : Int) ≤ 18446744073709551615 by omega), bin_gtr] at step
      rw [ref02_Reader_Count.j0_eq (ref02_Reader_Count.fx 1)] at step
      by_cases hx : m < (lebG (r.b.drop r.p)).1
      · rw [if_pos hx]
        have r2 := get_set (y := .arr (({ r with p := r.p } : Rd).cells o) false) r'
        have ef := dFail_den (r := r) (e := 3) r2 (by decide)
        rw [if_pos he, show (((3 : Nat) : Int)) = 3 from rfl] at ef
        simp only [decide_eq_true (show (((lebG (r.b.drop r.p)).1 : Int) > (m : Int)) by omega), condV_true, nilOk_ptr, fAddr_ptr, bind_some', copy_int, st_p r', canon_ptr, canon_int, ef, retOr_ret] at step
        exact ⟨_, step rfl rfl, k.trans ((Keep.set (by simp)).trans (.set (by simp))), get_set r2⟩
      · rw [if_neg hx]
        simp only [decide_eq_false (show ¬ (((lebG (r.b.drop r.p)).1 : Int) > (m : Int)) by omega), condV_false, cvInt_int, bind_some'] at step
        rw [wrap_i64 (by omega) (by omega)] at step
        exact ⟨_, step rfl rfl, k, r'⟩
    · rw [if_pos hl] at r' step ⊢
      simp only [decide_eq_true (show (((lebG (r.b.drop r.p)).2.2 : Int) ≠ 0) by omega), condV_true] at step
      exact ⟨_, step rfl rfl, k, r'⟩
  · rw [if_pos he] at r' step ⊢
    simp only [decide_eq_true (show ((r.e : Int) ≠ 0) by omega), condV_true] at step
    exact ⟨_, step rfl rfl, k, r'⟩
theorem dCount_den {h : H} {id m : Nat} {r : Rd} (hr : RdAt h id r) (hk : r.ok) (hm : m ≤ 2 ^ 40) : ∃ h', D n_warrantorref02_Reader_Count [.ptr id 0, .int .i64 m] h = some (.ret (.int .i64 (rdN m r).1), h') ∧ Keep [id] h h' ∧ RdAt h' id (rdN m r).2 := by
  obtain ⟨o, hr⟩ := hr
  obtain ⟨h', e, k, r'⟩ := dCountC_den hr hk hm
  exact ⟨h', e, k, o, r'⟩
theorem dText_den {h : H} {id m : Nat} {r : Rd} (hr : RdAt h id r) (hk : r.ok) (hm : m ≤ 2 ^ 40) : ∃ h', D n_warrantorref02_Reader_Text [.ptr id 0, .int .i64 m] h = some (.ret (.str (rdT m r).1), h') ∧ Keep [id] h h' ∧ RdAt h' id (rdT m r).2 := by
  obtain ⟨o, hr⟩ := hr
  have f := lebG_facts (r.b.drop r.p)
  rw [List.length_drop] at f
  have ok' := (rdN_ok (m := m) hk).1
  have h32 := hk.2.1
  obtain ⟨h', e, k, r'⟩ := dCountC_den hr hk hm
  have step : ∀ {v : AV} {h' : H}, ref02_Reader_Text.f (ref02_Reader_Text.JD 1) (.ptr id 0) (.int .i64 m) h = some (.ret v, h') → retOk Tryz.f115 (.ret v) = true → D n_warrantorref02_Reader_Text [.ptr id 0, .int .i64 m] h = some (.ret v, h') := fun {v h'} e hx => ref02_Reader_Text.den 1 e hx
  rw [ref02_Reader_Text.f_eq (ref02_Reader_Text.fx 1)] at step
  simp only [nilOk_ptr, fAddr_ptr, bind_some', ld_at hr, cell1, canon_ptr, canon_int, e, retOr_ret, ld_at r', cell0, cell1, cell2, bin_neq, BL_len, bin_sub, bin_gtr] at step
  unfold rdN at r' step ok'
  unfold rdT
  by_cases he : r.e = 0
  · rw [if_neg (by omega)] at r' ok' ⊢
    simp only [if_neg (show ¬ (r.e ≠ 0) by omega)] at step
    by_cases hl : (lebG (r.b.drop r.p)).2.2 = 0
    · rw [if_neg (by omega)] at r' ok' ⊢
      simp only [if_neg (show ¬ ((lebG (r.b.drop r.p)).2.2 ≠ 0) by omega)] at step
      by_cases hx : m < (lebG (r.b.drop r.p)).1
      · rw [if_pos hx] at r' ⊢
        simp only [if_pos hx] at step
        rw [show decide (((3 : Nat) : Int) ≠ 0) = true from rfl, condV_true] at step
        exact ⟨_, step rfl rfl, k, o, r'⟩
      · rw [if_neg hx] at r' ok' ⊢
        simp only [if_neg hx, decide_eq_false (show ¬ ((r.e : Int) ≠ 0) by omega), condV_false] at step
        rw [wrap_i64 (by omega) (by omega)] at step
        by_cases hy : r.b.length - (r.p + (lebG (r.b.drop r.p)).2.1) < (lebG (r.b.drop r.p)).1
        · rw [if_pos hy]
          have r2 := get_set (y := .arr (({ r with p := r.p } : Rd).cells o) false) r'
          have ef := dFail_den (r := r) (e := 10) r2 (by decide)
          rw [if_pos he, show (((10 : Nat) : Int)) = 10 from rfl] at ef
          simp only [decide_eq_true (show (((lebG (r.b.drop r.p)).1 : Int) > (r.b.length : Int) - ((r.p + (lebG (r.b.drop r.p)).2.1 : Nat) : Int)) by omega), condV_true, nilOk_ptr, fAddr_ptr, bind_some', copy_int, st_p r', canon_ptr, canon_int, ef, retOr_ret] at step
          exact ⟨_, step rfl rfl, k.trans ((Keep.set (by simp)).trans (.set (by simp))), o, get_set r2⟩
        · rw [if_neg hy]
          obtain ⟨h2, k2, e2⟩ := dTake_den (n := (lebG (r.b.drop r.p)).1) r' ok' (by omega)
          rw [if_neg (show ¬ (r.e ≠ 0) by omega), if_neg hy] at e2
          simp only [decide_eq_false (show ¬ (((lebG (r.b.drop r.p)).1 : Int) > (r.b.length : Int) - ((r.p + (lebG (r.b.drop r.p)).2.1 : Nat) : Int)) by omega), condV_false, canon_ptr, canon_int, e2.1, bind_some', retOr_ret, BL_toStr] at step
          exact ⟨_, step rfl rfl, k.trans k2, o, e2.2⟩
    · rw [if_pos hl] at r' ⊢
      simp only [if_pos hl, decide_eq_true (show (((lebG (r.b.drop r.p)).2.2 : Int) ≠ 0) by omega), condV_true] at step
      exact ⟨_, step rfl rfl, k, o, r'⟩
  · rw [if_pos he] at r' ⊢
    simp only [if_pos he, decide_eq_true (show ((r.e : Int) ≠ 0) by omega), condV_true] at step
    exact ⟨_, step rfl rfl, k, o, r'⟩
end Go.Proofs.YtdlnkfghgbddhaaGreat

open Go Go.Ve Go.Proofs
namespace Go.Proofs.YtdlnkfghgbddhaaGreat
set_option maxRecDepth 100000
set_option linter.all false
structure Alarm where
  kind : Int
  sev : Int
  func : List UInt8
  file : List UInt8
  line : Int
  expr : List UInt8
  deriving DecidableEq
def Alarm.c (a : Alarm) : List AV := [.int .i64 a.kind, .int .i64 a.sev, .str a.func, .str a.file, .int .i64 a.line, .str a.expr]
@[simp] theorem Alarm.c_len (a : Alarm) : a.c.length = 6 := by simp [Alarm.c]
@[simp] theorem Alarm.c_pure (a : Alarm) : pureL a.c = true := by simp [Alarm.c]
@[simp] theorem Alarm.c_one (a : Alarm) : a.c.all AV.one = true := by simp [Alarm.c]
@[simp] theorem Alarm.c_copy (a : Alarm) : a.c.map AV.copyCell = a.c := rfl
@[simp] theorem Alarm.c_canon (a : Alarm) : a.c.map AV.canonCell = a.c := rfl
@[simp] theorem Alarm.agg (a : Alarm) : aggAt 6 a.c 0 = some (.agg a.c) := aggAt_all rfl
abbrev AL (l : List Alarm) (o : Own := .no) : AV := .list (l.map Alarm.c) o
@[simp] theorem Alarm.l_pure (l : List Alarm) : pureR (l.map Alarm.c) = true := pureR_map Alarm.c_pure
def Alarm.none : Alarm := ⟨0, 0, [], [], 0, []⟩
structure Entry where
  finger : Fin 18446744073709551616
  alarm : Alarm
  state : Int
  count : Int
  note : List UInt8
  deriving DecidableEq
def Entry.c (e : Entry) : List AV := [.int .u64 (e.finger.val : Int), .int .i64 e.alarm.kind, .int .i64 e.alarm.sev, .str e.alarm.func, .str e.alarm.file, .int .i64 e.alarm.line, .str e.alarm.expr, .int .i64 e.state, .int .i64 e.count, .str e.note]
@[simp] theorem Entry.c_len (a : Entry) : a.c.length = 10 := by simp [Entry.c]
@[simp] theorem Entry.c_pure (a : Entry) : pureL a.c = true := by simp [Entry.c]
@[simp] theorem Entry.c_one (a : Entry) : a.c.all AV.one = true := by simp [Entry.c]
@[simp] theorem Entry.c_copy (a : Entry) : a.c.map AV.copyCell = a.c := rfl
@[simp] theorem Entry.c_canon (a : Entry) : a.c.map AV.canonCell = a.c := rfl
@[simp] theorem Entry.agg (a : Entry) : aggAt 10 a.c 0 = some (.agg a.c) := aggAt_all rfl
theorem Entry.alarmAt (a : Entry) : aggAt 6 a.c (0 + 1) = some (.agg a.alarm.c) := rfl
theorem Entry.c0 (a : Entry) : a.c[0 + 0]? = some (.int .u64 (a.finger.val : Int)) := rfl
theorem Entry.c7 (a : Entry) : a.c[0 + 7]? = some (.int .i64 a.state) := rfl
theorem Entry.c8 (a : Entry) : a.c[0 + 8]? = some (.int .i64 a.count) := rfl
theorem Entry.c9 (a : Entry) : a.c[0 + 9]? = some (.str a.note) := rfl
structure Change where
  kind : Int
  entry : Entry
  deriving DecidableEq
def Change.c (x : Change) : List AV := .int .i64 x.kind :: x.entry.c
@[simp] theorem Change.c_len (a : Change) : a.c.length = 11 := by simp [Change.c]
@[simp] theorem Change.c_pure (a : Change) : pureL a.c = true := by simp [Change.c, Entry.c]
@[simp] theorem Change.c_one (a : Change) : a.c.all AV.one = true := by simp [Change.c, Entry.c]
@[simp] theorem Change.c_copy (a : Change) : a.c.map AV.copyCell = a.c := rfl
@[simp] theorem Change.c_canon (a : Change) : a.c.map AV.canonCell = a.c := rfl
@[simp] theorem Change.agg (a : Change) : aggAt 11 a.c 0 = some (.agg a.c) := aggAt_all rfl
theorem Change.c0 (a : Change) : a.c[0 + 0]? = some (.int .i64 a.kind) := rfl
theorem Change.entryAt (a : Change) : aggAt 10 a.c (0 + 1) = some (.agg a.entry.c) := rfl
abbrev CL (l : List Change) (o : Own := .no) : AV := .list (l.map Change.c) o
@[simp] theorem Change.l_pure (l : List Change) : pureR (l.map Change.c) = true := pureR_map Change.c_pure
theorem entry_eq (a b : Entry) : aeq Tryz.prog 20 t_api_Entry (.agg a.c) (.agg b.c) = some (decide (a = b)) := by
  have h : aeq Tryz.prog 20 t_api_Entry (.agg a.c) (.agg b.c) = some ((a.finger.val : Int) == (b.finger.val : Int) && ((a.alarm.kind == b.alarm.kind && (a.alarm.sev == b.alarm.sev && (a.alarm.func == b.alarm.func && (a.alarm.file == b.alarm.file && (a.alarm.line == b.alarm.line && (a.alarm.expr == b.alarm.expr && true)))))) && (a.state == b.state && (a.count == b.count && (a.note == b.note && true))))) := by kernel_rfl
  rw [h]
  congr 1
  rcases a with ⟨f, ⟨a1, a2, a3, a4, a5, a6⟩, s, c, n⟩
  rcases b with ⟨f', ⟨b1, b2, b3, b4, b5, b6⟩, s', c', n'⟩
  have e : ((f.val : Int) == (f'.val : Int)) = decide (f = f') := by
    rw [Bool.eq_iff_iff, beq_iff_eq, decide_eq_true_iff]
    exact ⟨fun h => Fin.ext (by omega), fun h => by rw [h]⟩
  rw [Bool.eq_iff_iff]
  simp [e, and_assoc]
def oddB (b : UInt8) : Bool := decide (b.toNat < 32) || decide (126 < b.toNat)
def letB (n : Nat) : Bool := (decide (97 ≤ n) && decide (n ≤ 122)) || ((decide (65 ≤ n) && decide (n ≤ 90)) || decide (n = 95))
def morB (n : Nat) : Bool := letB n || ((decide (48 ≤ n) && decide (n ≤ 57)) || decide (n = 46))
def patB (n : Nat) : Bool := morB n || (decide (n = 45) || decide (n = 47))
def exprS (s : List UInt8) : Bool := (decide (1 ≤ s.length) && decide (s.length ≤ 128)) && !s.any oddB
def noteS (s : List UInt8) : Bool := decide (s.length ≤ 64) && !s.any oddB
def namS (goes : Nat → Bool) (most : Nat) (s : List UInt8) : Bool := (s.all fun b => goes b.toNat) && (decide (0 < s.length) && (decide (s.length ≤ most) && letB ((s.getD 0 0).toNat)))
def Alarm.ok (a : Alarm) : Bool := (decide (1 ≤ a.kind) && decide (a.kind ≤ 3)) && ((decide (1 ≤ a.sev) && decide (a.sev ≤ 2)) && ((decide (1 ≤ a.line) && decide (a.line ≤ 1048576)) && (namS morB 32 a.func && (namS patB 64 a.file && exprS a.expr))))
def Entry.ok (e : Entry) : Bool := e.alarm.ok && ((decide (1 ≤ e.state) && decide (e.state ≤ 3)) && ((decide (1 ≤ e.count) && decide (e.count ≤ 1048576)) && (noteS e.note && (decide (e.state = 3) || decide (e.note = [])))))
def Change.ok (x : Change) : Bool :=
  if x.kind = 1 then x.entry.alarm.ok && decide (x.entry.state = 0 ∧ x.entry.count = 0 ∧ x.entry.note = [])
  else if x.kind = 2 then noteS x.entry.note && decide (x.entry.alarm = .none ∧ x.entry.state = 0 ∧ x.entry.count = 0)
  else if x.kind = 3 ∨ x.kind = 4 then decide (x.entry.alarm = .none ∧ x.entry.state = 0 ∧ x.entry.count = 0 ∧ x.entry.note = [])
  else if x.kind = 5 then x.entry.ok else false
def Alarm.big (a : Alarm) : Bool := decide (300 < a.func.length) || (decide (300 < a.file.length) || decide (300 < a.expr.length))
def Entry.big (e : Entry) : Bool := e.alarm.big || decide (200 < e.note.length)
def large (l : List Change) (m : Nat) : Bool := decide (m < l.length) || l.any fun x => x.entry.big
theorem aLarge_den (a : Alarm) (h : H) : D n_warrantorref17_Large [AL [a]] h = some (.ret (.bool a.big), h) := by
  refine ref17_Large.den 3 (by simp) (h' := []) ?_ rfl rfl
  rw [ref17_Large.f_eq (ref17_Large.fx 3)]
  rw [show lnSl (AL [a]) = some (.int .i64 1) from rfl]
  simp only [bind_some', bin_gtr]
  rw [show decide ((1 : Int) > 100) = false from rfl, condV_false, ref17_Large.l0_eq (ref17_Large.fx 3)]
  rw [show lnSl (AL [a]) = some (.int .i64 1) from rfl, show ixSlice 6 (AL [a]) (.int .i64 0) = some (.rptr a.c 0) from rfl]
  simp only [bind_some', bin_lss]
  rw [show decide ((0 : Int) < 1) = true from rfl, condV_true]
  simp only [bind_some', fAddr_rptr, ldCell_rptr]
  rw [show a.c[0 + 2]? = some (.str a.func) from rfl, show a.c[0 + 3]? = some (.str a.file) from rfl, show a.c[0 + 5]? = some (.str a.expr) from rfl]
  simp only [bind_some', lnStr_str, bin_gtr]
  have e : ∀ b, ref17_Large.j0 (ref17_Large.JD 3) 2 (AL [a]) (.int .i64 0) (.bool b) [] = some (.ret (.bool b), []) := by
    intro b
    rw [ref17_Large.j0_eq (ref17_Large.fx 3)]
    cases b with
    | true => rw [condV_true]
    | false =>
      rw [condV_false]
      simp only [bin_add, bind_some']
      rw [wrap_i64 (by omega) (by omega), ref17_Large.l0_eq (ref17_Large.fx 3), show lnSl (AL [a]) = some (.int .i64 1) from rfl]
      simp only [bind_some', bin_lss]
      rw [show decide ((0 + 1 : Int) < 1) = false from rfl, condV_false]
  simp only [e]
  unfold Alarm.big
  by_cases h1 : 300 < a.func.length
  · simp only [decide_eq_true (show ((a.func.length : Int) > 300) by omega), condV_true, decide_eq_true h1, Bool.true_or]
  · simp only [decide_eq_false (show ¬ ((a.func.length : Int) > 300) by omega), condV_false, decide_eq_false h1, Bool.false_or]
    by_cases h2 : 300 < a.file.length
    · simp only [decide_eq_true (show ((a.file.length : Int) > 300) by omega), condV_true, decide_eq_true h2, Bool.true_or]
    · simp only [decide_eq_false (show ¬ ((a.file.length : Int) > 300) by omega), condV_false, decide_eq_false h2, Bool.false_or]
      by_cases h3 : 300 < a.expr.length
      · simp only [decide_eq_true (show ((a.expr.length : Int) > 300) by omega), decide_eq_true h3]
      · simp only [decide_eq_false (show ¬ ((a.expr.length : Int) > 300) by omega), decide_eq_false h3]
theorem eLarge_den (e : Entry) (h : H) : D n_warrantorref27_LargeEntry [.agg e.c] h = some (.ret (.bool e.big), h) := by
  refine ref27_LargeEntry.den 1 (by simp [pureL, AV.pure]) (h' := [.arr e.c false]) ?_ rfl rfl
  rw [ref27_LargeEntry.f_eq (ref27_LargeEntry.fx 1)]
  rw [copy_agg, Entry.c_copy, bx_agg e.c_one]
  simp only [bind_some', List.length_nil, List.nil_append, fAddr_ptr]
  have g : ([AObj.arr e.c false] : H)[0]? = some (.arr e.c false) := rfl
  rw [ldA_at g, e.alarmAt]
  simp only [bind_some']
  rw [show mkRows 6 [.int .i64 0, .int .i64 0, .str [], .str [], .int .i64 0, .str []] 1 [(0, .agg e.alarm.c)] = some (AL [e.alarm] .cap) from rfl]
  simp only [bind_some', canon_list, aLarge_den, retOr_ret]
  unfold Entry.big
  cases hb : e.alarm.big with
  | true => simp only [condV_true, Bool.true_or]; rfl
  | false =>
    simp only [condV_false, Bool.false_or, bind_some']
    rw [ld_at g, e.c9]
    simp only [bind_some', lnStr_str, bin_gtr, copy_bool]
    rw [decide_eq_decide.2 (show ((e.note.length : Int) > 200 ↔ 200 < e.note.length) by omega)]
end Go.Proofs.YtdlnkfghgbddhaaGreat

open Go Go.Ve Go.Proofs
namespace Go.Proofs.YtdlnkfghgbddhaaGreat
set_option maxRecDepth 100000
set_option linter.all false
theorem geqN {k : IntKind} (n m : Nat) : bin .geq (.int k (n : Int)) (.int k (m : Int)) = some (.bool (decide (m ≤ n))) := by
  rw [bin_geq]; exact congrArg (fun b => some (AV.bool b)) (decide_eq_decide.2 (by omega))
theorem leqN {k : IntKind} (n m : Nat) : bin .leq (.int k (n : Int)) (.int k (m : Int)) = some (.bool (decide (n ≤ m))) := by
  rw [bin_leq]; exact congrArg (fun b => some (AV.bool b)) (decide_eq_decide.2 (by omega))
theorem eqlN {k : IntKind} (n m : Nat) : bin .eql (.int k (n : Int)) (.int k (m : Int)) = some (.bool (decide (n = m))) := by
  rw [bin_eql]; exact congrArg (fun b => some (AV.bool b)) (decide_eq_decide.2 (by omega))
theorem neqN {k : IntKind} (n m : Nat) : bin .neq (.int k (n : Int)) (.int k (m : Int)) = some (.bool (!decide (n = m))) := by
  rw [bin_neq]; refine congrArg (fun b => some (AV.bool b)) ?_
  rw [← decide_not]; exact decide_eq_decide.2 (by omega)
theorem lssN {k : IntKind} (n m : Nat) : bin .lss (.int k (n : Int)) (.int k (m : Int)) = some (.bool (decide (n < m))) := by
  rw [bin_lss]; exact congrArg (fun b => some (AV.bool b)) (decide_eq_decide.2 (by omega))
theorem gtrN {k : IntKind} (n m : Nat) : bin .gtr (.int k (n : Int)) (.int k (m : Int)) = some (.bool (decide (m < n))) := by
  rw [bin_gtr]; exact congrArg (fun b => some (AV.bool b)) (decide_eq_decide.2 (by omega))
theorem condV_bool {R : Type} (b : Bool) (x y : Option R) : condV (.bool b) x y = bif b then x else y := by cases b <;> rfl
theorem letter_den (b : UInt8) (h : H) : D n_warrantorref11_letter [bv b] h = some (.ret (.bool (letB b.toNat)), h) := by
  refine ref11_letter.den 1 rfl (h' := []) ?_ rfl rfl
  rw [ref11_letter.f_eq (ref11_letter.fx 1)]
  rw [show (AV.int .u8 97) = .int .u8 ((97 : Nat) : Int) from rfl, show (AV.int .u8 122) = .int .u8 ((122 : Nat) : Int) from rfl, show (AV.int .u8 65) = .int .u8 ((65 : Nat) : Int) from rfl, show (AV.int .u8 90) = .int .u8 ((90 : Nat) : Int) from rfl, show (AV.int .u8 95) = .int .u8 ((95 : Nat) : Int) from rfl]
  simp only [geqN, leqN, eqlN, bind_some', copy_bool, letB]
  cases decide (97 ≤ b.toNat) <;> cases decide (b.toNat ≤ 122) <;> cases decide (65 ≤ b.toNat) <;> cases decide (b.toNat ≤ 90) <;> rfl
theorem more_den (b : UInt8) (h : H) : D n_warrantorref11_more [bv b] h = some (.ret (.bool (morB b.toNat)), h) := by
  refine ref11_more.den 1 rfl (h' := []) ?_ rfl rfl
  rw [ref11_more.f_eq (ref11_more.fx 1)]
  rw [show (AV.int .u8 48) = .int .u8 ((48 : Nat) : Int) from rfl, show (AV.int .u8 57) = .int .u8 ((57 : Nat) : Int) from rfl, show (AV.int .u8 46) = .int .u8 ((46 : Nat) : Int) from rfl]
  simp only [canon_int, letter_den, retOr_ret, geqN, leqN, eqlN, bind_some', copy_bool, morB]
  cases letB b.toNat <;> cases decide (48 ≤ b.toNat) <;> cases decide (b.toNat ≤ 57) <;> rfl
theorem ixStr_at {k : IntKind} {s : List UInt8} {i : Nat} (hi : i < s.length) : ixStr (.str s) (.int k i) = some (bv s[i]) := by
  simp [ixStr, natOf, hi]
theorem ixStr_0 {k : IntKind} {s : List UInt8} (hi : 0 < s.length) : ixStr (.str s) (.int k 0) = some (bv (s.getD 0 0)) := by
  have := ixStr_at (k := k) hi
  rw [List.getD_eq_getElem?_getD, List.getElem?_eq_getElem hi]
  exact this
theorem not_bool (b : Bool) : unOp .not (.bool b) = some (.bool (!b)) := rfl
theorem rname_loop {J : Jn (AEnd × H)} {k : Nat} (hJ : ref11_Name.F D k J) (s : List UInt8) (hs : s.length ≤ 2 ^ 50) (h : H) : ∀ (d i m : Nat), i + d = s.length → d < m →
    ref11_Name.l0 J m (.str s) (.int .i64 i) h = some (.ret (.bool ((s.drop i).all (fun b => morB b.toNat) && (decide (0 < s.length) && (decide (s.length ≤ 32) && letB ((s.getD 0 0).toNat))))), h)
  | 0, i, m + 1, hi, _ => by
    rw [ref11_Name.l0_eq hJ]
    rw [show (AV.int .i64 0) = .int .i64 ((0 : Nat) : Int) from rfl, show (AV.int .i64 32) = .int .i64 ((32 : Nat) : Int) from rfl]
    simp only [lnStr_str, bind_some', lssN, gtrN, leqN, decide_eq_false (show ¬ i < s.length by omega), condV_false]
    rw [List.drop_of_length_le (by omega), List.all_nil, Bool.true_and]
    by_cases h0 : 0 < s.length
    · rw [show (AV.int .i64 ((0 : Nat) : Int)) = .int .i64 0 from rfl]
      simp only [decide_eq_true h0, condV_true, Bool.true_and]
      by_cases h1 : s.length ≤ 32
      · simp only [decide_eq_true h1, condV_true, Bool.true_and, ixStr_0 h0, bind_some', canon_int, letter_den, retOr_ret, copy_bool]
      · simp only [decide_eq_false h1, condV_false, Bool.false_and, copy_bool]
    · simp only [decide_eq_false h0, condV_false, Bool.false_and, copy_bool]
  | d + 1, i, m + 1, hi, hm => by
    have hil : i < s.length := by omega
    have ih := rname_loop hJ s hs h d (i + 1) m (by omega) (by omega)
    rw [ref11_Name.l0_eq hJ, List.drop_eq_getElem_cons hil, List.all_cons]
    simp only [lnStr_str, bind_some', lssN, decide_eq_true hil, condV_true, ixStr_at hil, canon_int, more_den, retOr_ret, not_bool]
    cases morB s[i].toNat with
    | false => simp only [Bool.not_false, condV_true, Bool.false_and]
    | true =>
      simp only [Bool.not_true, condV_false, Bool.true_and, bin_add, bind_some']
      rw [wrap_i64 (by omega) (by omega)]
      exact ih
theorem rname_den (s : List UInt8) (hs : s.length ≤ 2 ^ 50) (h : H) : D n_warrantorref11_Name [.str s] h = some (.ret (.bool (namS morB 32 s)), h) := by
  refine ref11_Name.den (s.length + 1) rfl (h' := []) ?_ rfl rfl
  rw [ref11_Name.f_eq (ref11_Name.fx _)]
  exact rname_loop (ref11_Name.fx _) s hs [] s.length 0 (s.length + 1) (by omega) (by omega)
theorem rfile_loop {J : Jn (AEnd × H)} {k : Nat} (hJ : ref11_File.F D k J) (s : List UInt8) (hs : s.length ≤ 2 ^ 50) (h : H) : ∀ (d i m : Nat), i + d = s.length → d < m →
    ref11_File.l0 J m (.str s) (.int .i64 i) h = some (.ret (.bool ((s.drop i).all (fun b => patB b.toNat) && (decide (0 < s.length) && (decide (s.length ≤ 64) && letB ((s.getD 0 0).toNat))))), h)
  | 0, i, m + 1, hi, _ => by
    rw [ref11_File.l0_eq hJ]
    rw [show (AV.int .i64 0) = .int .i64 ((0 : Nat) : Int) from rfl, show (AV.int .i64 64) = .int .i64 ((64 : Nat) : Int) from rfl]
    simp only [lnStr_str, bind_some', lssN, gtrN, leqN, decide_eq_false (show ¬ i < s.length by omega), condV_false]
    rw [List.drop_of_length_le (by omega), List.all_nil, Bool.true_and]
    by_cases h0 : 0 < s.length
    · rw [show (AV.int .i64 ((0 : Nat) : Int)) = .int .i64 0 from rfl]
      simp only [decide_eq_true h0, condV_true, Bool.true_and]
      by_cases h1 : s.length ≤ 64
      · simp only [decide_eq_true h1, condV_true, Bool.true_and, ixStr_0 h0, bind_some', canon_int, letter_den, retOr_ret, copy_bool]
      · simp only [decide_eq_false h1, condV_false, Bool.false_and, copy_bool]
    · simp only [decide_eq_false h0, condV_false, Bool.false_and, copy_bool]
  | d + 1, i, m + 1, hi, hm => by
    have hil : i < s.length := by omega
    have ih := rfile_loop hJ s hs h d (i + 1) m (by omega) (by omega)
    have ej : ∀ b, ref11_File.j0 J m (.str s) (.int .i64 i) (.bool b) h = if b then some (.ret (.bool false), h) else ref11_File.l0 J m (.str s) (.int .i64 ((i + 1 : Nat) : Int)) h := by
      intro b
      rw [ref11_File.j0_eq hJ]
      cases b with
      | true => rfl
      | false =>
        simp only [condV_false, bin_add, bind_some']
        rw [wrap_i64 (by omega) (by omega)]
        rfl
    rw [ref11_File.l0_eq hJ, List.drop_eq_getElem_cons hil, List.all_cons]
    rw [show (AV.int .u8 45) = .int .u8 ((45 : Nat) : Int) from rfl, show (AV.int .u8 47) = .int .u8 ((47 : Nat) : Int) from rfl]
    simp only [lnStr_str, bind_some', lssN, decide_eq_true hil, condV_true, ixStr_at hil, canon_int, more_den, retOr_ret, not_bool, neqN, ej]
    have ep : patB s[i].toNat = (morB s[i].toNat || (decide (s[i].toNat = 45) || decide (s[i].toNat = 47))) := rfl
    rw [ep]
    cases morB s[i].toNat <;> cases decide (s[i].toNat = 45) <;> cases decide (s[i].toNat = 47)
    all_goals first | exact ih | rfl
theorem rfile_den (s : List UInt8) (hs : s.length ≤ 2 ^ 50) (h : H) : D n_warrantorref11_File [.str s] h = some (.ret (.bool (namS patB 64 s)), h) := by
  refine ref11_File.den (s.length + 1) rfl (h' := []) ?_ rfl rfl
  rw [ref11_File.f_eq (ref11_File.fx _)]
  exact rfile_loop (ref11_File.fx _) s hs [] s.length 0 (s.length + 1) (by omega) (by omega)
theorem rexpr_loop {J : Jn (AEnd × H)} {k : Nat} (hJ : ref17_Expr.F D k J) (s : List UInt8) (hs : s.length ≤ 2 ^ 50) (h : H) : ∀ (d i m : Nat), i + d = s.length → d < m →
    ref17_Expr.l0 J m (.str s) (.int .i64 i) h = some (.ret (.bool ((decide (1 ≤ s.length) && decide (s.length ≤ 128)) && !(s.drop i).any oddB)), h)
  | 0, i, m + 1, hi, _ => by
    rw [ref17_Expr.l0_eq hJ]
    rw [show (AV.int .i64 1) = .int .i64 ((1 : Nat) : Int) from rfl, show (AV.int .i64 128) = .int .i64 ((128 : Nat) : Int) from rfl]
    simp only [lnStr_str, bind_some', lssN, geqN, leqN, decide_eq_false (show ¬ i < s.length by omega), condV_false]
    rw [List.drop_of_length_le (by omega), List.any_nil, Bool.not_false, Bool.and_true]
    cases decide (1 ≤ s.length) <;> simp only [condV_true, condV_false, copy_bool, Bool.true_and, Bool.false_and]
  | d + 1, i, m + 1, hi, hm => by
    have hil : i < s.length := by omega
    have ih := rexpr_loop hJ s hs h d (i + 1) m (by omega) (by omega)
    have ej : ∀ b, ref17_Expr.j0 J m (.str s) (.int .i64 i) (.bool b) h = if b then some (.ret (.bool false), h) else ref17_Expr.l0 J m (.str s) (.int .i64 ((i + 1 : Nat) : Int)) h := by
      intro b
      rw [ref17_Expr.j0_eq hJ]
      cases b with
      | true => rfl
      | false =>
        simp only [condV_false, bin_add, bind_some']
        rw [wrap_i64 (by omega) (by omega)]
        rfl
    rw [ref17_Expr.l0_eq hJ, List.drop_eq_getElem_cons hil, List.any_cons]
    rw [show (AV.int .u8 32) = .int .u8 ((32 : Nat) : Int) from rfl, show (AV.int .u8 126) = .int .u8 ((126 : Nat) : Int) from rfl]
    simp only [lnStr_str, bind_some', lssN, gtrN, decide_eq_true hil, condV_true, ixStr_at hil, ej, ih]
    have ep : oddB s[i] = (decide (s[i].toNat < 32) || decide (126 < s[i].toNat)) := rfl
    rw [ep]
    cases decide (s[i].toNat < 32) <;> cases decide (126 < s[i].toNat)
    all_goals simp only [condV_true, condV_false, if_true, Bool.false_eq_true, if_false, Bool.true_or, Bool.or_true, Bool.false_or, Bool.not_true, Bool.and_false]
theorem rexpr_den (s : List UInt8) (hs : s.length ≤ 2 ^ 50) (h : H) : D n_warrantorref17_Expr [.str s] h = some (.ret (.bool (exprS s)), h) := by
  refine ref17_Expr.den (s.length + 1) rfl (h' := []) ?_ rfl rfl
  rw [ref17_Expr.f_eq (ref17_Expr.fx _)]
  exact rexpr_loop (ref17_Expr.fx _) s hs [] s.length 0 (s.length + 1) (by omega) (by omega)
theorem rnote_den (s : List UInt8) (hs : s.length ≤ 2 ^ 50) (h : H) : D n_warrantorref21_Note [.str s] h = some (.ret (.bool (noteS s)), h) := by
  refine ref21_Note.den 1 rfl (h' := []) ?_ rfl rfl
  rw [ref21_Note.f_eq (ref21_Note.fx _)]
  rw [show (AV.int .i64 0) = .int .i64 ((0 : Nat) : Int) from rfl, show (AV.int .i64 64) = .int .i64 ((64 : Nat) : Int) from rfl]
  simp only [lnStr_str, bind_some', eqlN, leqN, canon_str, rexpr_den s hs, retOr_ret, copy_bool]
  unfold noteS exprS
  by_cases h0 : s.length = 0
  · have : s = [] := List.eq_nil_of_length_eq_zero h0
    subst this
    rfl
  · simp only [decide_eq_false h0, condV_false]
    by_cases h1 : s.length ≤ 64
    · simp only [decide_eq_true h1, condV_true, decide_eq_true (show 1 ≤ s.length by omega), decide_eq_true (show s.length ≤ 128 by omega), Bool.true_and]
    · simp only [decide_eq_false h1, condV_false, Bool.false_and]
end Go.Proofs.YtdlnkfghgbddhaaGreat

open Go Go.Ve Go.Proofs
namespace Go.Proofs.YtdlnkfghgbddhaaGreat
set_option maxRecDepth 100000
set_option linter.all false
def Alarm.fit (a : Alarm) : Prop := a.func.length ≤ 2 ^ 50 ∧ a.file.length ≤ 2 ^ 50 ∧ a.expr.length ≤ 2 ^ 50
def Entry.fit (e : Entry) : Prop := e.alarm.fit ∧ e.note.length ≤ 2 ^ 50
theorem Alarm.fit_of {a : Alarm} (h : a.big = false) : a.fit := by
  unfold Alarm.big at h
  simp only [Bool.or_eq_false_iff, decide_eq_false_iff_not] at h
  exact ⟨by omega, by omega, by omega⟩
theorem Entry.fit_of {e : Entry} (h : e.big = false) : e.fit := by
  unfold Entry.big at h
  simp only [Bool.or_eq_false_iff, decide_eq_false_iff_not] at h
  exact ⟨Alarm.fit_of h.1, by omega⟩
theorem lssF {k : IntKind} (a b : Int) : bin .lss (.int k a) (.int k b) = some (.bool (!decide (b ≤ a))) := by
  rw [bin_lss, ← decide_not]; exact congrArg (fun b => some (AV.bool b)) (decide_eq_decide.2 (by omega))
theorem gtrF {k : IntKind} (a b : Int) : bin .gtr (.int k a) (.int k b) = some (.bool (!decide (a ≤ b))) := by
  rw [bin_gtr, ← decide_not]; exact congrArg (fun b => some (AV.bool b)) (decide_eq_decide.2 (by omega))
theorem geqF {k : IntKind} (a b : Int) : bin .geq (.int k a) (.int k b) = some (.bool (decide (b ≤ a))) := bin_geq
theorem Alarm.a0 (a : Alarm) : a.c[0 + 0]? = some (.int .i64 a.kind) := rfl
theorem Alarm.a1 (a : Alarm) : a.c[0 + 1]? = some (.int .i64 a.sev) := rfl
theorem Alarm.a2 (a : Alarm) : a.c[0 + 2]? = some (.str a.func) := rfl
theorem Alarm.a3 (a : Alarm) : a.c[0 + 3]? = some (.str a.file) := rfl
theorem Alarm.a4 (a : Alarm) : a.c[0 + 4]? = some (.int .i64 a.line) := rfl
theorem Alarm.a5 (a : Alarm) : a.c[0 + 5]? = some (.str a.expr) := rfl
theorem rAlarm_den (a : Alarm) (ha : a.fit) (h : H) : D n_warrantorref17_Check [.agg a.c] h = some (.ret (.bool a.ok), h) := by
  refine ref17_Check.den 1 (by simp [pureL, AV.pure]) (h' := [.arr a.c false]) ?_ rfl rfl
  rw [ref17_Check.f_eq (ref17_Check.fx 1)]
  rw [copy_agg, Alarm.c_copy, bx_agg a.c_one]
  have g : ([AObj.arr a.c false] : H)[0]? = some (.arr a.c false) := rfl
  have ej : ∀ b, ref17_Check.j1 (ref17_Check.JD 1) (.ptr 0 0) (.bool b) [.arr a.c false] = some (.ret (.bool (!b && (namS morB 32 a.func && (namS patB 64 a.file && exprS a.expr)))), [.arr a.c false]) := by
    intro b
    rw [ref17_Check.j1_eq (ref17_Check.fx 1)]
    cases b with
    | true => rfl
    | false =>
      rw [condV_false, ref17_Check.j0_eq (ref17_Check.fx 1)]
      simp only [fAddr_ptr, bind_some', ld_at g, a.a2, a.a3, a.a5, canon_str, rname_den _ ha.1, rfile_den _ ha.2.1, rexpr_den _ ha.2.2, retOr_ret, copy_bool]
      cases namS morB 32 a.func <;> cases namS patB 64 a.file <;> rfl
  simp only [bind_some', List.length_nil, List.nil_append, fAddr_ptr, ld_at g, a.a0, a.a1, a.a4, lssF, gtrF, ej]
  unfold Alarm.ok
  cases decide (1 ≤ a.kind) <;> cases decide (a.kind ≤ 3) <;> cases decide (1 ≤ a.sev) <;> cases decide (a.sev ≤ 2) <;> cases decide (1 ≤ a.line) <;> cases decide (a.line ≤ 1048576) <;> rfl
theorem rRight_den (e : Entry) (he : e.fit) (h : H) : D n_warrantorref27_Right [.agg e.c] h = some (.ret (.bool e.ok), h) := by
  refine ref27_Right.den 1 (by simp [pureL, AV.pure]) (h' := [.arr e.c false]) ?_ rfl rfl
  rw [ref27_Right.f_eq (ref27_Right.fx 1)]
  rw [copy_agg, Entry.c_copy, bx_agg e.c_one]
  have g : ([AObj.arr e.c false] : H)[0]? = some (.arr e.c false) := rfl
  have ej : ∀ b, ref27_Right.j1 (ref27_Right.JD 1) (.ptr 0 0) (.bool b) [.arr e.c false] = some (.ret (.bool (!b && (decide (e.state = 3) || decide (e.note = [])))), [.arr e.c false]) := by
    intro b
    rw [ref27_Right.j1_eq (ref27_Right.fx 1)]
    cases b with
    | true => rfl
    | false =>
      rw [condV_false, ref27_Right.j0_eq (ref27_Right.fx 1)]
      simp only [fAddr_ptr, bind_some', ld_at g, e.c7, e.c9, bin_eql, bin_str, strBin_eql, copy_bool]
      cases decide (e.state = 3) <;> rfl
  simp only [bind_some', List.length_nil, List.nil_append, fAddr_ptr, ldA_at g, e.alarmAt, ld_at g, e.c7, e.c8, e.c9, canon_agg, Alarm.c_canon, rAlarm_den _ he.1, retOr_ret, not_bool, lssF, gtrF, ej, canon_str, rnote_den _ he.2]
  unfold Entry.ok
  cases e.alarm.ok <;> cases decide (1 ≤ e.state) <;> cases decide (e.state ≤ 3) <;> cases decide (1 ≤ e.count) <;> cases decide (e.count ≤ 1048576) <;> cases noteS e.note <;> rfl
def uses (k : Int) (e : Entry) : Entry :=
  if k = 1 then ⟨e.finger, e.alarm, 0, 0, []⟩ else if k = 2 then ⟨e.finger, .none, 0, 0, e.note⟩ else if k = 3 ∨ k = 4 then ⟨e.finger, .none, 0, 0, []⟩ else e
theorem rUses_den (k : Int) (e : Entry) (h : H) : D n_warrantorref27_Uses [.int .i64 k, .agg e.c] h = some (.ret (.agg (uses k e).c), h) := by
  have g0 : ([AObj.arr e.c false] ++ [AObj.arr [.int .u64 0, .int .i64 0, .int .i64 0, .str [], .str [], .int .i64 0, .str [], .int .i64 0, .int .i64 0, .str []] false] : H)[0]? = some (.arr e.c false) := rfl
  have st (x : Entry) : stN 10 ([AObj.arr e.c false] ++ [AObj.arr [.int .u64 0, .int .i64 0, .int .i64 0, .str [], .str [], .int .i64 0, .str [], .int .i64 0, .int .i64 0, .str []] false] : H) (.ptr 1 0) (.agg x.c) = some (.undef, [AObj.arr e.c false, AObj.arr x.c false]) := rfl
  have ld (x : Entry) : ldAgg 10 ([AObj.arr e.c false, AObj.arr x.c false] : H) (.ptr 1 0) = some (.agg x.c) := rfl
  have key : ref27_Uses.f (ref27_Uses.JD 1) (.int .i64 k) (.agg e.c) [] = some (.ret (.agg (uses k e).c), [AObj.arr e.c false, AObj.arr (uses k e).c false]) := by
    have ej : ∀ b, ref27_Uses.j0 (ref27_Uses.JD 1) (.ptr 0 0) (.ptr 1 0) (.bool b) ([AObj.arr e.c false] ++ [AObj.arr [.int .u64 0, .int .i64 0, .int .i64 0, .str [], .str [], .int .i64 0, .str [], .int .i64 0, .int .i64 0, .str []] false] : H) = some (.ret (.agg (if b then (⟨e.finger, .none, 0, 0, []⟩ : Entry) else e).c), [AObj.arr e.c false, AObj.arr (if b then (⟨e.finger, .none, 0, 0, []⟩ : Entry) else e).c false]) := by
      intro b
      rw [ref27_Uses.j0_eq (ref27_Uses.fx 1)]
      cases b with
      | true =>
        rw [condV_true]
        simp only [fAddr_ptr, bind_some', ld_at g0, e.c0, copy_int]
        rw [show mkAgg [.int .u64 0, .int .i64 0, .int .i64 0, .str [], .str [], .int .i64 0, .str [], .int .i64 0, .int .i64 0, .str []] [(0, 1, .int .u64 (e.finger.val : Int))] = some (.agg (⟨e.finger, .none, 0, 0, []⟩ : Entry).c) from rfl]
        simp only [bind_some', st, ld, if_true]
        rfl
      | false =>
        rw [condV_false]
        rw [show ldAgg 10 ([AObj.arr e.c false] ++ [AObj.arr [.int .u64 0, .int .i64 0, .int .i64 0, .str [], .str [], .int .i64 0, .str [], .int .i64 0, .int .i64 0, .str []] false] : H) (.ptr 0 0) = some (.agg e.c) from rfl]
        simp only [bind_some', copy_agg, Entry.c_copy, st, ld]
        rfl
    rw [ref27_Uses.f_eq (ref27_Uses.fx 1)]
    rw [copy_agg, Entry.c_copy, bx_agg e.c_one]
    simp only [bind_some', List.length_nil, List.nil_append, List.length_cons, Nat.zero_add]
    simp only [fAddr_ptr, bind_some', bin_eql, ej]
    unfold uses
    by_cases h1 : k = 1
    · simp only [if_pos h1, decide_eq_true h1, condV_true, ld_at g0, e.c0, ldA_at g0, e.alarmAt, bind_some', copy_int, copy_agg, Alarm.c_copy]
      rw [show mkAgg [.int .u64 0, .int .i64 0, .int .i64 0, .str [], .str [], .int .i64 0, .str [], .int .i64 0, .int .i64 0, .str []] [(0, 1, .int .u64 (e.finger.val : Int)), (1, 6, .agg e.alarm.c)] = some (.agg (⟨e.finger, e.alarm, 0, 0, []⟩ : Entry).c) from rfl]
      simp only [bind_some', st, ld]
      rfl
    · simp only [if_neg h1, decide_eq_false h1, condV_false]
      by_cases h2 : k = 2
      · simp only [if_pos h2, decide_eq_true h2, condV_true, ld_at g0, e.c0, e.c9, bind_some', copy_int, copy_str]
        rw [show mkAgg [.int .u64 0, .int .i64 0, .int .i64 0, .str [], .str [], .int .i64 0, .str [], .int .i64 0, .int .i64 0, .str []] [(0, 1, .int .u64 (e.finger.val : Int)), (9, 1, .str e.note)] = some (.agg (⟨e.finger, .none, 0, 0, e.note⟩ : Entry).c) from rfl]
        simp only [bind_some', st, ld]
        rfl
      · simp only [if_neg h2, decide_eq_false h2, condV_false]
        by_cases h3 : k = 3
        · simp only [if_pos (Or.inl h3), decide_eq_true h3, condV_true, if_true]
        · by_cases h4 : k = 4
          · simp only [if_pos (Or.inr h4), decide_eq_false h3, decide_eq_true h4, condV_false, if_true]
          · simp only [if_neg (show ¬ (k = 3 ∨ k = 4) by omega), decide_eq_false h3, decide_eq_false h4, condV_false, Bool.false_eq_true, if_false]
  exact ref27_Uses.den 1 (by simp [pureL, AV.pure]) key (by simp [AV.pure]) rfl
theorem eqv_t (b : Bool) : eqv true (some b) = some (.bool (!b)) := by cases b <;> rfl
theorem eqv_f (b : Bool) : eqv false (some b) = some (.bool b) := by cases b <;> rfl
theorem rCheck_den (x : Change) (hx : x.entry.fit) (h : H) : D n_warrantorref27_Check [.agg x.c] h = some (.ret (.bool x.ok), h) := by
  refine ref27_Check.den 1 (by simp [pureL, AV.pure]) (h' := [.arr x.c false]) ?_ rfl rfl
  rw [ref27_Check.f_eq (ref27_Check.fx 1)]
  rw [copy_agg, Change.c_copy, bx_agg x.c_one]
  have g : ([AObj.arr x.c false] : H)[0]? = some (.arr x.c false) := rfl
  have a6 : aggAt 6 x.c (0 + 1 + 1) = some (.agg x.entry.alarm.c) := rfl
  have c9 : x.c[0 + 1 + 9]? = some (.str x.entry.note) := rfl
  have ej : ∀ b, ref27_Check.j0 (ref27_Check.JD 1) (.ptr 0 0) (.int .i64 x.kind) (.bool b) [.arr x.c false] = some (.ret (.bool (if b then true else if x.kind = 5 then x.entry.ok else false)), [.arr x.c false]) := by
    intro b
    rw [ref27_Check.j0_eq (ref27_Check.fx 1)]
    cases b with
    | true => rfl
    | false =>
      simp only [condV_false, bin_eql, bind_some', fAddr_ptr, ldA_at g, x.entryAt, canon_agg, Entry.c_canon, rRight_den _ hx, retOr_ret]
      by_cases h5 : x.kind = 5
      · simp only [decide_eq_true h5, condV_true, if_pos h5, Bool.false_eq_true, if_false]
      · simp only [decide_eq_false h5, condV_false, if_neg h5, Bool.false_eq_true, if_false]
  simp only [bind_some', List.length_nil, List.nil_append, fAddr_ptr, ldA_at g, ld_at g, x.entryAt, x.c0, canon_int, canon_agg, Entry.c_canon, rUses_den, retOr_ret, entry_eq, eqv_t, bin_eql, a6, c9, Alarm.c_canon, rAlarm_den _ hx.1, canon_str, rnote_den _ hx.2, ej]
  unfold Change.ok uses
  rcases x with ⟨k, f, a, s, c, n⟩
  simp only
  by_cases h1 : k = 1
  · simp only [if_pos h1, decide_eq_true h1, condV_true, Entry.mk.injEq, true_and]
    by_cases hc : s = 0 ∧ c = 0 ∧ n = []
    · simp only [decide_eq_true hc, Bool.not_true, condV_false, Bool.and_true]
    · simp only [decide_eq_false hc, Bool.not_false, condV_true, Bool.and_false]
  · simp only [if_neg h1, decide_eq_false h1, condV_false]
    by_cases h2 : k = 2
    · simp only [if_pos h2, decide_eq_true h2, condV_true, Entry.mk.injEq, true_and, and_true]
      by_cases hc : a = .none ∧ s = 0 ∧ c = 0
      · simp only [decide_eq_true hc, Bool.not_true, condV_false, Bool.and_true]
      · simp only [decide_eq_false hc, Bool.not_false, condV_true, Bool.and_false]
    · simp only [if_neg h2, decide_eq_false h2, condV_false]
      by_cases h3 : k = 3
      · simp only [if_pos (show k = 3 ∨ k = 4 from Or.inl h3), decide_eq_true h3, condV_true, Entry.mk.injEq, true_and, if_true]
        by_cases hc : a = .none ∧ s = 0 ∧ c = 0 ∧ n = []
        · simp only [decide_eq_true hc, Bool.not_true, condV_false]
        · simp only [decide_eq_false hc, Bool.not_false, condV_true]
      · by_cases h4 : k = 4
        · simp only [if_pos (show k = 3 ∨ k = 4 from Or.inr h4), decide_eq_false h3, decide_eq_true h4, condV_false, Entry.mk.injEq, true_and, if_true]
          by_cases hc : a = .none ∧ s = 0 ∧ c = 0 ∧ n = []
          · simp only [decide_eq_true hc, Bool.not_true, condV_false]
          · simp only [decide_eq_false hc, Bool.not_false, condV_true]
        · simp only [if_neg (show ¬ (k = 3 ∨ k = 4) by omega), decide_eq_false h3, decide_eq_false h4, condV_false, Bool.false_eq_true, if_false]
          simp only [decide_true, Bool.not_true, condV_false]
end Go.Proofs.YtdlnkfghgbddhaaGreat

open Go Go.Ve Go.Proofs
namespace Go.Proofs.YtdlnkfghgbddhaaGreat
set_option maxRecDepth 100000
set_option linter.all false
theorem CL_len (l : List Change) (o : Own) : lnSl (CL l o) = some (.int .i64 l.length) := by simp [CL]
theorem CL_at {k : IntKind} {l : List Change} {o : Own} {i : Nat} (hi : i < l.length) : ixSlice 11 (CL l o) (.int k i) = some (.rptr l[i].c 0) := ixSlice_map hi Change.c_len
theorem add1 (i : Nat) (hi : i < 2 ^ 60) : bin .add (.int .i64 (i : Int)) (.int .i64 1) = some (.int .i64 ((i + 1 : Nat) : Int)) := by
  rw [bin_add, wrap_i64 (by omega) (by omega)]; rfl
theorem large_loop {J : Jn (AEnd × H)} {k : Nat} (hJ : ref27_Large.F D k J) (l : List Change) (hl : l.length ≤ 2 ^ 50) (h : H) : ∀ (d i m : Nat), i + d = l.length → d < m →
    ref27_Large.l0 J m (CL l) (.int .i64 i) h = some (.ret (.bool ((l.drop i).any fun x => x.entry.big)), h)
  | 0, i, m + 1, hi, _ => by
    rw [ref27_Large.l0_eq hJ]
    simp only [CL_len, bind_some', lssN, decide_eq_false (show ¬ i < l.length by omega), condV_false]
    rw [List.drop_of_length_le (by omega)]
    rfl
  | d + 1, i, m + 1, hi, hm => by
    have hil : i < l.length := by omega
    have ih := large_loop hJ l hl h d (i + 1) m (by omega) (by omega)
    rw [ref27_Large.l0_eq hJ, List.drop_eq_getElem_cons hil, List.any_cons]
    simp only [CL_len, bind_some', lssN, decide_eq_true hil, condV_true, CL_at hil, fAddr_rptr, ldAgg_rptr, Change.entryAt, canon_agg, Entry.c_canon, eLarge_den, retOr_ret, add1 i (by omega), ih]
    cases l[i].entry.big <;> rfl
theorem large_den (l : List Change) (m : Nat) (hm : m ≤ 2 ^ 50) (h : H) : D n_warrantorref27_Large [CL l, .int .i64 m] h = some (.ret (.bool (large l m)), h) := by
  refine ref27_Large.den (l.length + 1) (by simp) (h' := []) ?_ rfl rfl
  rw [ref27_Large.f_eq (ref27_Large.fx _)]
  simp only [CL_len, bind_some', gtrN]
  unfold large
  by_cases hl : m < l.length
  · rw [decide_eq_true hl]; rfl
  · rw [show (.int .i64 0 : AV) = .int .i64 ((0 : Nat) : Int) from rfl, large_loop (ref27_Large.fx _) l (by omega) [] l.length 0 (l.length + 1) (by omega) (by omega), decide_eq_false hl]
    rfl
theorem large_fit {l : List Change} {m : Nat} (h : large l m = false) : l.length ≤ m ∧ ∀ x ∈ l, x.entry.big = false := by
  unfold large at h
  simp only [Bool.or_eq_false_iff, decide_eq_false_iff_not, List.any_eq_false, Bool.not_eq_true] at h
  exact ⟨by omega, h.2⟩
def batch (l : List Change) : Bool := l.all Change.ok && (decide (1 ≤ l.length) && decide (l.length ≤ 512))
theorem rbatch_loop {J : Jn (AEnd × H)} {k : Nat} (hJ : ref27_Batch.F D k J) (l : List Change) (hl : l.length ≤ 2 ^ 50) (hf : ∀ x ∈ l, x.entry.fit) (h : H) : ∀ (d i m : Nat), i + d = l.length → d < m →
    ref27_Batch.l0 J m (CL l) (.int .i64 i) h = some (.ret (.bool ((l.drop i).all Change.ok && (decide (1 ≤ l.length) && decide (l.length ≤ 512)))), h)
  | 0, i, m + 1, hi, _ => by
    rw [ref27_Batch.l0_eq hJ]
    rw [show (.int .i64 1 : AV) = .int .i64 ((1 : Nat) : Int) from rfl, show (.int .i64 512 : AV) = .int .i64 ((512 : Nat) : Int) from rfl]
    simp only [CL_len, bind_some', lssN, geqN, leqN, decide_eq_false (show ¬ i < l.length by omega), condV_false, copy_bool]
    rw [List.drop_of_length_le (by omega), List.all_nil, Bool.true_and]
    cases decide (1 ≤ l.length) <;> rfl
  | d + 1, i, m + 1, hi, hm => by
    have hil : i < l.length := by omega
    have ih := rbatch_loop hJ l hl hf h d (i + 1) m (by omega) (by omega)
    rw [ref27_Batch.l0_eq hJ, List.drop_eq_getElem_cons hil, List.all_cons]
    simp only [CL_len, bind_some', lssN, decide_eq_true hil, condV_true, CL_at hil, ldAgg_rptr, Change.agg, canon_agg, Change.c_canon, rCheck_den l[i] (hf _ (List.getElem_mem hil)), retOr_ret, not_bool, add1 i (by omega), ih]
    cases l[i].ok <;> rfl
theorem rbatch_den (l : List Change) (hl : l.length ≤ 2 ^ 50) (hf : ∀ x ∈ l, x.entry.fit) (h : H) : D n_warrantorref27_Batch [CL l] h = some (.ret (.bool (batch l)), h) := by
  refine ref27_Batch.den (l.length + 1) (by simp) (h' := []) ?_ rfl rfl
  rw [ref27_Batch.f_eq (ref27_Batch.fx _)]
  exact rbatch_loop (ref27_Batch.fx _) l hl hf [] l.length 0 (l.length + 1) (by omega) (by omega)
end Go.Proofs.YtdlnkfghgbddhaaGreat

open Go Go.Ve Go.Proofs
namespace Go.Proofs.YtdlnkfghgbddhaaGreat
set_option maxRecDepth 100000
set_option linter.all false
theorem str_get (l : List UInt8) (i : Nat) (hi : i < l.length) : ((⟨l.toArray⟩ : ByteArray)[i]'(by simpa [ByteArray.size] using hi)) = l[i] := by
  simp [ByteArray.getElem_eq_getElem_data]
theorem next_end {s : List UInt8} {i : Nat} (hi : s.length ≤ i) : next [.siter s i] (.ptr 0 0) true = some (.tuple [.bool false], [.siter s i]) := by
  have : ¬ i < s.length := by omega
  simp [next, this]
theorem next_low {s : List UInt8} {i : Nat} (hi : i < s.length) (hb : s[i].toNat < 128) : next [.siter s i] (.ptr 0 0) true = some (.tuple [.bool true, .int .i64 i, .int .i32 (s[i].toNat : Int)], [.siter s (i + 1)]) := by
  have hsz : i < (⟨s.toArray⟩ : ByteArray).size := by simpa [ByteArray.size] using hi
  have hdec : Utf8.decode ⟨s.toArray⟩ i = ((s[i]).toNat, 1) := by
    rw [decode_ascii _ _ hsz (by rw [str_get s i hi]; exact hb), str_get s i hi]
  simp [next, hi, hdec]
theorem next_high {s : List UInt8} {i : Nat} (hi : i < s.length) (hb : 128 ≤ s[i].toNat) : ∃ c w : Nat, 128 ≤ c ∧ next [.siter s i] (.ptr 0 0) true = some (.tuple [.bool true, .int .i64 i, .int .i32 (c : Int)], [.siter s (i + w)]) := by
  have hsz : i < (⟨s.toArray⟩ : ByteArray).size := by simpa [ByteArray.size] using hi
  have hdec := decode_high ⟨s.toArray⟩ i hsz (by rw [str_get s i hi]; omega)
  exact ⟨(Utf8.decode ⟨s.toArray⟩ i).1, (Utf8.decode ⟨s.toArray⟩ i).2, by omega, by simp [next, hi]⟩
theorem indexFunc_loop {J : Jn (AEnd × H)} {k : Nat} (hJ : strings_indexFunc.F D k J) (fv : AV) (odd : Nat → Bool) (hf : ∀ (n : Nat) (h : H), callVal D h fv [.int .i32 (n : Int)] = some (.ret (.bool (odd n)), h)) (ho : ∀ n, 128 ≤ n → odd n = true) (s : List UInt8) : ∀ (d i m : Nat), i + d = s.length → d < m →
    ∃ r h', strings_indexFunc.l0 J m fv (.bool true) (.ptr 0 0) [.siter s i] = some (.ret (.int .i64 r), h') ∧ (0 ≤ r ↔ (s.drop i).any (fun b => odd b.toNat) = true)
  | 0, i, m + 1, hi, _ => by
    rw [strings_indexFunc.l0_eq hJ]
    have e := next_end (s := s) (i := i) (by omega)
    refine ⟨-1, [.siter s i], ?_, by simp [List.drop_of_length_le (show s.length ≤ i by omega)]⟩
    rw [e]
    rfl
  | d + 1, i, m + 1, hi, hm => by
    rw [strings_indexFunc.l0_eq hJ]
    have hil : i < s.length := by omega
    rw [List.drop_eq_getElem_cons hil, List.any_cons]
    by_cases hb : s[i].toNat < 128
    · rw [next_low hil hb]
      simp only [bind_some', exTuple_eq]
      rw [show ([AV.bool true, .int .i64 (i : Int), .int .i32 (s[i].toNat : Int)])[0]? = some (.bool true) from rfl, show ([AV.bool true, .int .i64 (i : Int), .int .i32 (s[i].toNat : Int)])[1]? = some (.int .i64 (i : Int)) from rfl, show ([AV.bool true, .int .i64 (i : Int), .int .i32 (s[i].toNat : Int)])[2]? = some (.int .i32 (s[i].toNat : Int)) from rfl]
      simp only [bind_some', condV_true, canon_int, hf, retOr_ret, binBool_eql, copy_int]
      cases hx : odd s[i].toNat with
      | true => exact ⟨i, _, rfl, by simp⟩
      | false =>
        obtain ⟨r, h', hr, hiff⟩ := indexFunc_loop hJ fv odd hf ho s d (i + 1) m (by omega) (by omega)
        refine ⟨r, h', ?_, by simpa using hiff⟩
        simp only [condV_false, show (false == true) = false from rfl]
        exact hr
    · obtain ⟨c, w, hc, e⟩ := next_high hil (by omega)
      rw [e]
      simp only [bind_some', exTuple_eq]
      rw [show ([AV.bool true, .int .i64 (i : Int), .int .i32 (c : Int)])[0]? = some (.bool true) from rfl, show ([AV.bool true, .int .i64 (i : Int), .int .i32 (c : Int)])[1]? = some (.int .i64 (i : Int)) from rfl, show ([AV.bool true, .int .i64 (i : Int), .int .i32 (c : Int)])[2]? = some (.int .i32 (c : Int)) from rfl]
      simp only [bind_some', condV_true, canon_int, hf, retOr_ret, binBool_eql, copy_int, ho c hc, ho s[i].toNat (by omega)]
      exact ⟨i, _, rfl, by simp⟩
theorem contains_den (f : Nat) (odd : Nat → Bool) (hf : ∀ (n : Nat) (h : H), callVal D h (.func (.func f) [] []) [.int .i32 (n : Int)] = some (.ret (.bool (odd n)), h)) (ho : ∀ n, 128 ≤ n → odd n = true) (s : List UInt8) (h : H) : D n_strings_ContainsFunc [.str s, .func (.func f) [] []] h = some (.ret (.bool (s.any fun b => odd b.toNat)), h) := by
  obtain ⟨r, h', hr, hiff⟩ := indexFunc_loop (strings_indexFunc.fx (s.length + 1)) (.func (.func f) [] []) odd hf ho s s.length 0 (s.length + 1) (by omega) (by omega)
  have d1 : ∀ h, D n_strings_indexFunc [.str s, .func (.func f) [] [], .bool true] h = some (.ret (.int .i64 r), h) := by
    intro h
    refine strings_indexFunc.den (s.length + 1) rfl (h' := h') ?_ rfl rfl
    rw [strings_indexFunc.f_eq (strings_indexFunc.fx _)]
    simp only [rgStr, List.length_nil, List.nil_append, bind_some', hr]
  have d2 : ∀ h, D n_strings_IndexFunc [.str s, .func (.func f) [] []] h = some (.ret (.int .i64 r), h) := by
    intro h
    refine strings_IndexFunc.den 0 rfl (h' := []) ?_ rfl rfl
    rw [strings_IndexFunc.f_eq (strings_IndexFunc.fx _)]
    simp only [canon_str, canon_func, canon_bool, d1, bind_some', retOr_ret]
  refine strings_ContainsFunc.den 0 rfl (h' := []) ?_ rfl rfl
  rw [strings_ContainsFunc.f_eq (strings_ContainsFunc.fx _)]
  simp only [canon_str, canon_func, d2, bind_some', retOr_ret, bin_geq, copy_bool]
  simp only [List.drop_zero] at hiff
  have : decide (r ≥ 0) = s.any fun b => odd b.toNat := by
    rw [Bool.eq_iff_iff, decide_eq_true_iff]; exact hiff
  rw [this]
def oddN (n : Nat) : Bool := decide (n < 32) || decide (126 < n)
theorem oddN_eq : (fun b : UInt8 => oddN b.toNat) = oddB := rfl
theorem oddN_high (n : Nat) (h : 128 ≤ n) : oddN n = true := by simp [oddN]; omega
theorem oddE_den (n : Nat) (h : H) : callVal D h (.func (.func n_alarm_expr_c1) [] []) [.int .i32 (n : Int)] = some (.ret (.bool (oddN n)), h) := by
  refine alarm_expr_c1.den 0 rfl (h' := []) ?_ rfl rfl
  rw [alarm_expr_c1.f_eq (alarm_expr_c1.fx _), show (AV.int .i32 32) = .int .i32 ((32 : Nat) : Int) from rfl, show (AV.int .i32 126) = .int .i32 ((126 : Nat) : Int) from rfl]
  simp only [lssN, gtrN, bind_some', copy_bool, oddN]
  cases decide (n < 32) <;> rfl
theorem oddR_den (n : Nat) (h : H) : callVal D h (.func (.func n_result_note_c1) [] []) [.int .i32 (n : Int)] = some (.ret (.bool (oddN n)), h) := by
  refine result_note_c1.den 0 rfl (h' := []) ?_ rfl rfl
  rw [result_note_c1.f_eq (result_note_c1.fx _), show (AV.int .i32 32) = .int .i32 ((32 : Nat) : Int) from rfl, show (AV.int .i32 126) = .int .i32 ((126 : Nat) : Int) from rfl]
  simp only [lssN, gtrN, bind_some', copy_bool, oddN]
  cases decide (n < 32) <;> rfl
theorem expr_den (s : List UInt8) (h : H) : D n_alarm_expr [.str s] h = some (.ret (.bool (exprS s)), h) := by
  refine alarm_expr.den 0 rfl (h' := []) ?_ rfl rfl
  rw [alarm_expr.f_eq (alarm_expr.fx _), show (AV.int .i64 128) = .int .i64 ((128 : Nat) : Int) from rfl]
  simp only [bin_str, strBin_neq, bind_some', lnStr_str, leqN, canon_str, canon_func, contains_den n_alarm_expr_c1 oddN oddE_den oddN_high, oddN_eq, retOr_ret, not_bool, copy_bool]
  unfold exprS
  cases s with
  | nil => rfl
  | cons a l =>
    rw [show decide ((a :: l : List UInt8) ≠ []) = true by simp, condV_true, show decide (1 ≤ (a :: l).length) = true by simp]
    cases decide ((a :: l).length ≤ 128) <;> rfl
theorem note_den (s : List UInt8) (h : H) : D n_result_note [.str s] h = some (.ret (.bool (noteS s)), h) := by
  refine result_note.den 0 rfl (h' := []) ?_ rfl rfl
  rw [result_note.f_eq (result_note.fx _), show (AV.int .i64 64) = .int .i64 ((64 : Nat) : Int) from rfl]
  simp only [bind_some', lnStr_str, leqN, canon_str, canon_func, contains_den n_result_note_c1 oddN oddR_den oddN_high, oddN_eq, retOr_ret, not_bool, copy_bool]
  unfold noteS
  cases decide (s.length ≤ 64) <;> rfl
theorem pletter_den (n : Nat) (h : H) : D n_prog_letter [.int .i32 (n : Int)] h = some (.ret (.bool (letB n)), h) := by
  refine prog_letter.den 1 rfl (h' := []) ?_ rfl rfl
  rw [prog_letter.f_eq (prog_letter.fx 1)]
  rw [show (AV.int .i32 97) = .int .i32 ((97 : Nat) : Int) from rfl, show (AV.int .i32 122) = .int .i32 ((122 : Nat) : Int) from rfl, show (AV.int .i32 65) = .int .i32 ((65 : Nat) : Int) from rfl, show (AV.int .i32 90) = .int .i32 ((90 : Nat) : Int) from rfl, show (AV.int .i32 95) = .int .i32 ((95 : Nat) : Int) from rfl]
  simp only [geqN, leqN, eqlN, bind_some', copy_bool, letB]
  cases decide (97 ≤ n) <;> cases decide (n ≤ 122) <;> cases decide (65 ≤ n) <;> cases decide (n ≤ 90) <;> rfl
theorem pplain_den (n : Nat) (h : H) : D n_prog_plain [.int .i32 (n : Int)] h = some (.ret (.bool (morB n)), h) := by
  refine prog_plain.den 1 rfl (h' := []) ?_ rfl rfl
  rw [prog_plain.f_eq (prog_plain.fx 1)]
  rw [show (AV.int .i32 48) = .int .i32 ((48 : Nat) : Int) from rfl, show (AV.int .i32 57) = .int .i32 ((57 : Nat) : Int) from rfl, show (AV.int .i32 46) = .int .i32 ((46 : Nat) : Int) from rfl]
  simp only [canon_int, pletter_den, retOr_ret, geqN, leqN, eqlN, bind_some', copy_bool, morB]
  cases letB n <;> cases decide (48 ≤ n) <;> cases decide (n ≤ 57) <;> rfl
theorem ppath_den (n : Nat) (h : H) : D n_prog_path [.int .i32 (n : Int)] h = some (.ret (.bool (patB n)), h) := by
  refine prog_path.den 1 rfl (h' := []) ?_ rfl rfl
  rw [prog_path.f_eq (prog_path.fx 1)]
  rw [show (AV.int .i32 45) = .int .i32 ((45 : Nat) : Int) from rfl, show (AV.int .i32 47) = .int .i32 ((47 : Nat) : Int) from rfl]
  simp only [canon_int, pplain_den, retOr_ret, eqlN, bind_some', copy_bool, patB]
  cases morB n <;> cases decide (n = 45) <;> rfl
theorem letB_high (n : Nat) (h : 128 ≤ n) : letB n = false := by simp [letB]; omega
theorem morB_high (n : Nat) (h : 128 ≤ n) : morB n = false := by simp [morB, letB_high n h]; omega
theorem patB_high (n : Nat) (h : 128 ≤ n) : patB n = false := by simp [patB, morB_high n h]; omega
theorem named_j0 {J : Jn (AEnd × H)} {k : Nat} (hJ : prog_named.F D k J) (s : List UInt8) (most : Nat) (fv : AV) (m : Nat) (b : Bool) (h : H) : prog_named.j0 J m (.str s) (.int .i64 most) fv (.ptr 0 0) (.bool b) h = if b then some (.ret (.bool false), h) else prog_named.l0 J m (.str s) (.int .i64 most) fv (.ptr 0 0) h := by
  rw [prog_named.j0_eq hJ]
  cases b <;> rfl
theorem named_loop {J : Jn (AEnd × H)} {k : Nat} (hJ : prog_named.F D k J) (f most : Nat) (goes : Nat → Bool) (hf : ∀ (n : Nat) (h : H), callVal D h (.func (.func f) [] []) [.int .i32 (n : Int)] = some (.ret (.bool (goes n)), h)) (ho : ∀ n, 128 ≤ n → goes n = false) (s : List UInt8) : ∀ (d i m : Nat), i + d = s.length → d < m → (0 < i ∨ d = 0) →
    ∃ h', prog_named.l0 J m (.str s) (.int .i64 most) (.func (.func f) [] []) (.ptr 0 0) [.siter s i] = some (.ret (.bool ((s.drop i).all (fun b => goes b.toNat) && (decide (0 < s.length) && decide (s.length ≤ most)))), h')
  | 0, i, m + 1, hi, _, _ => by
    rw [prog_named.l0_eq hJ]
    have e := next_end (s := s) (i := i) (by omega)
    refine ⟨[.siter s i], ?_⟩
    rw [e, List.drop_of_length_le (by omega), List.all_nil, Bool.true_and]
    simp only [bind_some', exTuple_eq]
    rw [show ([AV.bool false])[0]? = some (.bool false) from rfl]
    simp only [bind_some', condV_false, bin_str, strBin_neq, lnStr_str, leqN, copy_bool]
    cases s with
    | nil => rfl
    | cons a l =>
      rw [show decide ((a :: l : List UInt8) ≠ []) = true by simp, condV_true, show decide (0 < (a :: l).length) = true by simp, Bool.true_and]
  | d + 1, i, m + 1, hi, hm, h0 => by
    rw [prog_named.l0_eq hJ]
    have hil : i < s.length := by omega
    have hi0 : 0 < i := by omega
    rw [List.drop_eq_getElem_cons hil, List.all_cons]
    by_cases hb : s[i].toNat < 128
    · rw [next_low hil hb, show (AV.int .i64 0) = .int .i64 ((0 : Nat) : Int) from rfl]
      simp only [bind_some', exTuple_eq]
      rw [show ([AV.bool true, .int .i64 (i : Int), .int .i32 (s[i].toNat : Int)])[0]? = some (.bool true) from rfl, show ([AV.bool true, .int .i64 (i : Int), .int .i32 (s[i].toNat : Int)])[1]? = some (.int .i64 (i : Int)) from rfl, show ([AV.bool true, .int .i64 (i : Int), .int .i32 (s[i].toNat : Int)])[2]? = some (.int .i32 (s[i].toNat : Int)) from rfl]
      simp only [bind_some', condV_true, eqlN, decide_eq_false (show ¬ i = 0 by omega), condV_false, canon_int, hf, retOr_ret, not_bool, named_j0 hJ]
      cases hx : goes s[i].toNat with
      | false => exact ⟨_, rfl⟩
      | true =>
        obtain ⟨h', hr⟩ := named_loop hJ f most goes hf ho s d (i + 1) m (by omega) (by omega) (.inl (by omega))
        exact ⟨h', hr⟩
    · obtain ⟨c, w, hc, e⟩ := next_high hil (by omega)
      rw [e, show (AV.int .i64 0) = .int .i64 ((0 : Nat) : Int) from rfl]
      simp only [bind_some', exTuple_eq]
      rw [show ([AV.bool true, .int .i64 (i : Int), .int .i32 (c : Int)])[0]? = some (.bool true) from rfl, show ([AV.bool true, .int .i64 (i : Int), .int .i32 (c : Int)])[1]? = some (.int .i64 (i : Int)) from rfl, show ([AV.bool true, .int .i64 (i : Int), .int .i32 (c : Int)])[2]? = some (.int .i32 (c : Int)) from rfl]
      simp only [bind_some', condV_true, eqlN, decide_eq_false (show ¬ i = 0 by omega), condV_false, canon_int, hf, retOr_ret, not_bool, named_j0 hJ, ho c hc, ho s[i].toNat (by omega)]
      exact ⟨_, rfl⟩
theorem named_den (f most : Nat) (goes : Nat → Bool) (hf : ∀ (n : Nat) (h : H), callVal D h (.func (.func f) [] []) [.int .i32 (n : Int)] = some (.ret (.bool (goes n)), h)) (ho : ∀ n, 128 ≤ n → goes n = false) (s : List UInt8) (h : H) : D n_prog_named [.str s, .int .i64 most, .func (.func f) [] []] h = some (.ret (.bool (namS goes most s)), h) := by
  have hJ := prog_named.fx (s.length + 1)
  have key : ∃ h', prog_named.l0 (prog_named.JD (s.length + 1)) (s.length + 1) (.str s) (.int .i64 most) (.func (.func f) [] []) (.ptr 0 0) [.siter s 0] = some (.ret (.bool (namS goes most s)), h') := by
    unfold namS
    cases s with
    | nil => exact named_loop hJ f most goes hf ho [] 0 0 1 rfl (by decide) (.inr rfl)
    | cons a l =>
      rw [prog_named.l0_eq hJ]
      have hil : 0 < (a :: l).length := by simp
      rw [List.all_cons, show decide (0 < (a :: l).length) = true by simp, Bool.true_and, show (a :: l).getD 0 0 = a from rfl]
      by_cases hb : a.toNat < 128
      · have e := next_low (s := a :: l) hil hb
        rw [e]
        rw [show (a :: l)[0] = a from rfl]
        simp only [bind_some', exTuple_eq]
        rw [show ([AV.bool true, .int .i64 ((0 : Nat) : Int), .int .i32 (a.toNat : Int)])[0]? = some (.bool true) from rfl, show ([AV.bool true, .int .i64 ((0 : Nat) : Int), .int .i32 (a.toNat : Int)])[1]? = some (.int .i64 0) from rfl, show ([AV.bool true, .int .i64 ((0 : Nat) : Int), .int .i32 (a.toNat : Int)])[2]? = some (.int .i32 (a.toNat : Int)) from rfl]
        simp only [bind_some', condV_true, bin_eql, decide_true, canon_int, pletter_den, hf, retOr_ret, not_bool, named_j0 hJ]
        cases letB a.toNat with
        | false =>
          simp only [Bool.not_false, condV_true, if_true, Bool.and_false]
          exact ⟨_, rfl⟩
        | true =>
          simp only [Bool.not_true, condV_false, Bool.and_true]
          cases hx : goes a.toNat with
          | false => exact ⟨_, rfl⟩
          | true =>
            obtain ⟨h', hr⟩ := named_loop hJ f most goes hf ho (a :: l) l.length 1 (l.length + 1) (by simp; omega) (by omega) (.inl (by omega))
            rw [show decide (0 < (a :: l).length) = true by simp, Bool.true_and] at hr
            exact ⟨h', hr⟩
      · obtain ⟨c, w, hc, e⟩ := next_high (s := a :: l) hil (by show 128 ≤ a.toNat; omega)
        rw [e]
        simp only [bind_some', exTuple_eq]
        rw [show ([AV.bool true, .int .i64 ((0 : Nat) : Int), .int .i32 (c : Int)])[0]? = some (.bool true) from rfl, show ([AV.bool true, .int .i64 ((0 : Nat) : Int), .int .i32 (c : Int)])[1]? = some (.int .i64 0) from rfl, show ([AV.bool true, .int .i64 ((0 : Nat) : Int), .int .i32 (c : Int)])[2]? = some (.int .i32 (c : Int)) from rfl]
        simp only [bind_some', condV_true, bin_eql, decide_true, canon_int, pletter_den, hf, retOr_ret, not_bool, named_j0 hJ, letB_high c hc, letB_high a.toNat (by omega)]
        simp only [Bool.not_false, condV_true, if_true, Bool.and_false]
        exact ⟨_, rfl⟩
  obtain ⟨h', hr⟩ := key
  refine prog_named.den (s.length + 1) rfl (h' := h') ?_ rfl rfl
  rw [prog_named.f_eq hJ]
  simp only [rgStr, List.length_nil, List.nil_append, bind_some', hr]
theorem pname_den (s : List UInt8) (h : H) : D n_prog_name [.str s] h = some (.ret (.bool (namS morB 32 s)), h) := by
  refine prog_name.den 0 rfl (h' := []) ?_ rfl rfl
  rw [prog_name.f_eq (prog_name.fx _)]
  have := named_den n_prog_plain 32 morB (fun (n : Nat) h => pplain_den n h) morB_high s []
  rw [show (((32 : Nat) : Int)) = 32 from rfl] at this
  simp only [canon_str, canon_int, canon_func, this, bind_some', retOr_ret]
theorem pfile_den (s : List UInt8) (h : H) : D n_prog_named [.str s, .int .i64 64, .func (.func n_prog_path) [] []] h = some (.ret (.bool (namS patB 64 s)), h) :=
  named_den n_prog_path 64 patB (fun (n : Nat) h => ppath_den n h) patB_high s h
end Go.Proofs.YtdlnkfghgbddhaaGreat
