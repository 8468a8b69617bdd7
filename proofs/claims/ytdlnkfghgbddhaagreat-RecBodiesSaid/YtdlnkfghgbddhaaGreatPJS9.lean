/- What the functions of the records' layer come to: 9: alarms, entries, changes; texts. -/
import Derived.Test.YtdlnkfghgbddhaaGreatPJS8
import Derived.Laws.RangeString
import Derived.Laws.RangeAny
set_option linter.all false

open Go Go.Ve Go.Proofs
namespace Go.Proofs.YtdlnkfghgbddhaaGreat
set_option maxRecDepth 100000
set_option linter.all false

structure Alarm where
  kind : Int
  sev : Int
  func : List UInt8
  file : List UInt8
  line : Int
  expr : List UInt8
  deriving DecidableEq
def Alarm.c (a : Alarm) : List AV := [.int .i64 a.kind, .int .i64 a.sev, .str a.func, .str a.file, .int .i64 a.line, .str a.expr]
@[simp] theorem Alarm.c_len (a : Alarm) : a.c.length = 6 := by simp [Alarm.c]
@[simp] theorem Alarm.c_pure (a : Alarm) : pureL a.c = true := by simp [Alarm.c]
@[simp] theorem Alarm.c_one (a : Alarm) : a.c.all AV.one = true := by simp [Alarm.c]
@[simp] theorem Alarm.c_copy (a : Alarm) : a.c.map AV.copyCell = a.c := rfl
@[simp] theorem Alarm.c_canon (a : Alarm) : a.c.map AV.canonCell = a.c := rfl
@[simp] theorem Alarm.agg (a : Alarm) : aggAt 6 a.c 0 = some (.agg a.c) := aggAt_all rfl
abbrev AL (l : List Alarm) (o : Own := .no) : AV := .list (l.map Alarm.c) o
@[simp] theorem Alarm.l_pure (l : List Alarm) : pureR (l.map Alarm.c) = true := pureR_map Alarm.c_pure
def Alarm.none : Alarm := ⟨0, 0, [], [], 0, []⟩

structure Entry where
  finger : Fin 18446744073709551616
  alarm : Alarm
  state : Int
  count : Int
  note : List UInt8
  deriving DecidableEq
def Entry.c (e : Entry) : List AV := [.int .u64 (e.finger.val : Int), .int .i64 e.alarm.kind, .int .i64 e.alarm.sev, .str e.alarm.func, .str e.alarm.file, .int .i64 e.alarm.line, .str e.alarm.expr, .int .i64 e.state, .int .i64 e.count, .str e.note]
@[simp] theorem Entry.c_len (a : Entry) : a.c.length = 10 := by simp [Entry.c]
@[simp] theorem Entry.c_pure (a : Entry) : pureL a.c = true := by simp [Entry.c]
@[simp] theorem Entry.c_one (a : Entry) : a.c.all AV.one = true := by simp [Entry.c]
@[simp] theorem Entry.c_copy (a : Entry) : a.c.map AV.copyCell = a.c := rfl
@[simp] theorem Entry.c_canon (a : Entry) : a.c.map AV.canonCell = a.c := rfl
@[simp] theorem Entry.agg (a : Entry) : aggAt 10 a.c 0 = some (.agg a.c) := aggAt_all rfl
theorem Entry.alarmAt (a : Entry) : aggAt 6 a.c (0 + 1) = some (.agg a.alarm.c) := rfl
theorem Entry.c0 (a : Entry) : a.c[0 + 0]? = some (.int .u64 (a.finger.val : Int)) := rfl
theorem Entry.c7 (a : Entry) : a.c[0 + 7]? = some (.int .i64 a.state) := rfl
theorem Entry.c8 (a : Entry) : a.c[0 + 8]? = some (.int .i64 a.count) := rfl
theorem Entry.c9 (a : Entry) : a.c[0 + 9]? = some (.str a.note) := rfl

structure Change where
  kind : Int
  entry : Entry
  deriving DecidableEq
def Change.c (x : Change) : List AV := .int .i64 x.kind :: x.entry.c
@[simp] theorem Change.c_len (a : Change) : a.c.length = 11 := by simp [Change.c]
@[simp] theorem Change.c_pure (a : Change) : pureL a.c = true := by simp [Change.c, Entry.c]
@[simp] theorem Change.c_one (a : Change) : a.c.all AV.one = true := by simp [Change.c, Entry.c]
@[simp] theorem Change.c_copy (a : Change) : a.c.map AV.copyCell = a.c := rfl
@[simp] theorem Change.c_canon (a : Change) : a.c.map AV.canonCell = a.c := rfl
@[simp] theorem Change.agg (a : Change) : aggAt 11 a.c 0 = some (.agg a.c) := aggAt_all rfl
theorem Change.c0 (a : Change) : a.c[0 + 0]? = some (.int .i64 a.kind) := rfl
theorem Change.entryAt (a : Change) : aggAt 10 a.c (0 + 1) = some (.agg a.entry.c) := rfl
abbrev CL (l : List Change) (o : Own := .no) : AV := .list (l.map Change.c) o
@[simp] theorem Change.l_pure (l : List Change) : pureR (l.map Change.c) = true := pureR_map Change.c_pure

theorem entry_eq (a b : Entry) : aeq Tryz.prog 20 t_api_Entry (.agg a.c) (.agg b.c) = some (decide (a = b)) := by
  have h : aeq Tryz.prog 20 t_api_Entry (.agg a.c) (.agg b.c) = some ((a.finger.val : Int) == (b.finger.val : Int) && ((a.alarm.kind == b.alarm.kind && (a.alarm.sev == b.alarm.sev && (a.alarm.func == b.alarm.func && (a.alarm.file == b.alarm.file && (a.alarm.line == b.alarm.line && (a.alarm.expr == b.alarm.expr && true)))))) && (a.state == b.state && (a.count == b.count && (a.note == b.note && true))))) := by kernel_rfl
  rw [h]
  congr 1
  rcases a with ⟨f, ⟨a1, a2, a3, a4, a5, a6⟩, s, c, n⟩
  rcases b with ⟨f', ⟨b1, b2, b3, b4, b5, b6⟩, s', c', n'⟩
  have e : ((f.val : Int) == (f'.val : Int)) = decide (f = f') := by
    rw [Bool.eq_iff_iff, beq_iff_eq, decide_eq_true_iff]
    exact ⟨fun h => Fin.ext (by omega), fun h => by rw [h]⟩
  rw [Bool.eq_iff_iff]
  simp [e, and_assoc]
theorem change_eq (a b : Change) : aeq Tryz.prog 20 t_api_Change (.agg a.c) (.agg b.c) = some (decide (a = b)) := by
  have h : aeq Tryz.prog 20 t_api_Change (.agg a.c) (.agg b.c) = some (a.kind == b.kind && (((a.entry.finger.val : Int) == (b.entry.finger.val : Int) && ((a.entry.alarm.kind == b.entry.alarm.kind && (a.entry.alarm.sev == b.entry.alarm.sev && (a.entry.alarm.func == b.entry.alarm.func && (a.entry.alarm.file == b.entry.alarm.file && (a.entry.alarm.line == b.entry.alarm.line && (a.entry.alarm.expr == b.entry.alarm.expr && true)))))) && (a.entry.state == b.entry.state && (a.entry.count == b.entry.count && (a.entry.note == b.entry.note && true))))) && true)) := by kernel_rfl
  rw [h]
  congr 1
  rcases a with ⟨k, f, ⟨a1, a2, a3, a4, a5, a6⟩, s, c, n⟩
  rcases b with ⟨k', f', ⟨b1, b2, b3, b4, b5, b6⟩, s', c', n'⟩
  have e : ((f.val : Int) == (f'.val : Int)) = decide (f = f') := by
    rw [Bool.eq_iff_iff, beq_iff_eq, decide_eq_true_iff]
    exact ⟨fun h => Fin.ext (by omega), fun h => by rw [h]⟩
  rw [Bool.eq_iff_iff]
  simp [e, and_assoc]

/-- Bytes of texts and names. -/
def oddB (b : UInt8) : Bool := decide (b.toNat < 32) || decide (126 < b.toNat)
def letB (n : Nat) : Bool := (decide (97 ≤ n) && decide (n ≤ 122)) || ((decide (65 ≤ n) && decide (n ≤ 90)) || decide (n = 95))
def morB (n : Nat) : Bool := letB n || ((decide (48 ≤ n) && decide (n ≤ 57)) || decide (n = 46))
def patB (n : Nat) : Bool := morB n || (decide (n = 45) || decide (n = 47))
def exprS (s : List UInt8) : Bool := (decide (1 ≤ s.length) && decide (s.length ≤ 128)) && !s.any oddB
def noteS (s : List UInt8) : Bool := decide (s.length ≤ 64) && !s.any oddB
def namS (goes : Nat → Bool) (most : Nat) (s : List UInt8) : Bool := (s.all fun b => goes b.toNat) && (decide (0 < s.length) && (decide (s.length ≤ most) && letB ((s.getD 0 0).toNat)))
def Alarm.ok (a : Alarm) : Bool := (decide (1 ≤ a.kind) && decide (a.kind ≤ 3)) && ((decide (1 ≤ a.sev) && decide (a.sev ≤ 2)) && ((decide (1 ≤ a.line) && decide (a.line ≤ 1048576)) && (namS morB 32 a.func && (namS patB 64 a.file && exprS a.expr))))
def Entry.ok (e : Entry) : Bool := e.alarm.ok && ((decide (1 ≤ e.state) && decide (e.state ≤ 3)) && ((decide (1 ≤ e.count) && decide (e.count ≤ 1048576)) && (noteS e.note && (decide (e.state = 3) || decide (e.note = [])))))
def Change.ok (x : Change) : Bool :=
  if x.kind = 1 then x.entry.alarm.ok && decide (x.entry.state = 0 ∧ x.entry.count = 0 ∧ x.entry.note = [])
  else if x.kind = 2 then noteS x.entry.note && decide (x.entry.alarm = .none ∧ x.entry.state = 0 ∧ x.entry.count = 0)
  else if x.kind = 3 ∨ x.kind = 4 then decide (x.entry.alarm = .none ∧ x.entry.state = 0 ∧ x.entry.count = 0 ∧ x.entry.note = [])
  else if x.kind = 5 then x.entry.ok else false
def Alarm.big (a : Alarm) : Bool := decide (300 < a.func.length) || (decide (300 < a.file.length) || decide (300 < a.expr.length))
def Entry.big (e : Entry) : Bool := e.alarm.big || decide (200 < e.note.length)
def large (l : List Change) (m : Nat) : Bool := decide (m < l.length) || l.any fun x => x.entry.big

theorem aLarge_den (a : Alarm) (h : H) : D n_warrantorref17_Large [AL [a]] h = some (.ret (.bool a.big), h) := by
  refine warrantorref17_Large.den 3 (by simp) (h' := []) ?_ rfl rfl
  rw [warrantorref17_Large.f_eq (warrantorref17_Large.fx 3)]
  rw [show lnSl (AL [a]) = some (.int .i64 1) from rfl]
  simp only [bind_some', bin_gtr]
  rw [show decide ((1 : Int) > 100) = false from rfl, condV_false, warrantorref17_Large.l0_eq (warrantorref17_Large.fx 3)]
  rw [show lnSl (AL [a]) = some (.int .i64 1) from rfl, show ixSlice 6 (AL [a]) (.int .i64 0) = some (.rptr a.c 0) from rfl]
  simp only [bind_some', bin_lss]
  rw [show decide ((0 : Int) < 1) = true from rfl, condV_true]
  simp only [bind_some', fAddr_rptr, ldCell_rptr]
  rw [show a.c[0 + 2]? = some (.str a.func) from rfl, show a.c[0 + 3]? = some (.str a.file) from rfl, show a.c[0 + 5]? = some (.str a.expr) from rfl]
  simp only [bind_some', lnStr_str, bin_gtr]
  have e : ∀ b, warrantorref17_Large.j0 (warrantorref17_Large.JD 3) 2 (AL [a]) (.int .i64 0) (.bool b) [] = some (.ret (.bool b), []) := by
    intro b
    rw [warrantorref17_Large.j0_eq (warrantorref17_Large.fx 3)]
    cases b with
    | true => rw [condV_true]
    | false =>
      rw [condV_false]
      simp only [bin_add, bind_some']
      rw [wrap_i64 (by omega) (by omega), warrantorref17_Large.l0_eq (warrantorref17_Large.fx 3), show lnSl (AL [a]) = some (.int .i64 1) from rfl]
      simp only [bind_some', bin_lss]
      rw [show decide ((0 + 1 : Int) < 1) = false from rfl, condV_false]
  simp only [e]
  unfold Alarm.big
  by_cases h1 : 300 < a.func.length
  · simp only [decide_eq_true (show ((a.func.length : Int) > 300) by omega), condV_true, decide_eq_true h1, Bool.true_or]
  · simp only [decide_eq_false (show ¬ ((a.func.length : Int) > 300) by omega), condV_false, decide_eq_false h1, Bool.false_or]
    by_cases h2 : 300 < a.file.length
    · simp only [decide_eq_true (show ((a.file.length : Int) > 300) by omega), condV_true, decide_eq_true h2, Bool.true_or]
    · simp only [decide_eq_false (show ¬ ((a.file.length : Int) > 300) by omega), condV_false, decide_eq_false h2, Bool.false_or]
      by_cases h3 : 300 < a.expr.length
      · simp only [decide_eq_true (show ((a.expr.length : Int) > 300) by omega), decide_eq_true h3]
      · simp only [decide_eq_false (show ¬ ((a.expr.length : Int) > 300) by omega), decide_eq_false h3]
theorem eLarge_den (e : Entry) (h : H) : D n_warrantorref27_LargeEntry [.agg e.c] h = some (.ret (.bool e.big), h) := by
  refine warrantorref27_LargeEntry.den 1 (by simp [pureL, AV.pure]) (h' := [.arr e.c false]) ?_ rfl rfl
  rw [warrantorref27_LargeEntry.f_eq (warrantorref27_LargeEntry.fx 1)]
  rw [copy_agg, Entry.c_copy, bx_agg e.c_one]
  simp only [bind_some', List.length_nil, List.nil_append, fAddr_ptr]
  have g : ([AObj.arr e.c false] : H)[0]? = some (.arr e.c false) := rfl
  rw [ldA_at g, e.alarmAt]
  simp only [bind_some']
  rw [show mkRows 6 [.int .i64 0, .int .i64 0, .str [], .str [], .int .i64 0, .str []] 1 [(0, .agg e.alarm.c)] = some (AL [e.alarm] .cap) from rfl]
  simp only [bind_some', canon_list, aLarge_den, retOr_ret]
  unfold Entry.big
  cases hb : e.alarm.big with
  | true => simp only [condV_true, Bool.true_or]; rfl
  | false =>
    simp only [condV_false, Bool.false_or, bind_some']
    rw [ld_at g, e.c9]
    simp only [bind_some', lnStr_str, bin_gtr, copy_bool]
    rw [decide_eq_decide.2 (show ((e.note.length : Int) > 200 ↔ 200 < e.note.length) by omega)]
end Go.Proofs.YtdlnkfghgbddhaaGreat
