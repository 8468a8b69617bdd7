/- What the functions of the records' layer come to: 28: bytes are got, by the program. -/
import Derived.Test.YtdlnkfghgbddhaaGreatPJS27
set_option linter.all false

open Go Go.Ve Go.Proofs
namespace Go.Proofs.YtdlnkfghgbddhaaGreat
set_option maxRecDepth 100000
set_option linter.all false

theorem readd_none {call : Cl} {n : Nat} (x0 x1 : AV) (h : H) : rec_read.dc call n n_rec_read_c1 [x0, x1] h .nilIface = some (h ++ [.arr [] false]) := by
  rw [rec_read.d113_eq]
  simp only [taTo, if_true, bind_some', exTuple_eq]
  rw [show ([AV.agg [], AV.bool false])[0]? = some (AV.agg []) from rfl, show ([AV.agg [], AV.bool false])[1]? = some (AV.bool false) from rfl]
  simp only [bind_some', condV_false]
  rw [show AV.copy (.agg []) = .agg [] from rfl, st_agg (n := 0) get_new (by simp) rfl rfl, set_new]
  rfl
theorem copy_rows (rows : List (List AV)) (o : Own) : ∃ o', AV.copy (.list rows o) = .list rows o' := by
  cases o <;> exact ⟨_, rfl⟩
theorem read_den (b : List UInt8) (hb : b.length ≤ 2 ^ 32) (h : H) : ∃ o, D n_rec_read [BL b] h = some (.ret (.tuple (match changesOf b with | some l => [CL l o, .bool true] | none => [.list [] .cap, .bool false])), h) := by
  obtain ⟨o, e⟩ := changes_den b hb [AObj.arr [.list [] .cap] false, AObj.arr [.bool false] false]
  cases hc : changesOf b with
  | some l =>
    rw [hc] at e
    obtain ⟨o', ho⟩ := copy_rows (l.map Change.c) o
    refine ⟨o', rec_read.den 1 (by simp) (h' := [AObj.arr [CL l o] false, AObj.arr [.bool true] false] ++ [.arr [] false]) ?_ (by simp [AV.pure]) rfl⟩
    rw [rec_read.f_eq (rec_read.fx 1)]
    simp only [List.length_nil, List.nil_append, List.length_singleton, BL_canon]
    rw [show ([AObj.arr [.list [] .cap] false] ++ [AObj.arr [.bool false] false] : H) = [AObj.arr [.list [] .cap] false, AObj.arr [.bool false] false] from rfl, e]
    simp only [bind_some', retOr_ret]
    rw [show stN 1 ([AObj.arr [.list [] .cap] false, AObj.arr [.bool false] false] : H) (.ptr 0 0) (CL l o) = some (.undef, [AObj.arr [CL l o] false, AObj.arr [.bool false] false]) from rfl]
    simp only [bind_some']
    rw [show stN 1 ([AObj.arr [CL l o] false, AObj.arr [.bool false] false] : H) (.ptr 1 0) (.bool true) = some (.undef, [AObj.arr [CL l o] false, AObj.arr [.bool true] false]) from rfl]
    simp only [bind_some', readd_none]
    rw [show ldCell ([AObj.arr [CL l o] false, AObj.arr [.bool true] false] ++ [.arr [] false] : H) (.ptr 0 0) = some (CL l o) from rfl, show ldCell ([AObj.arr [CL l o] false, AObj.arr [.bool true] false] ++ [.arr [] false] : H) (.ptr 1 0) = some (.bool true) from rfl]
    simp only [Option.map_some, ho, copy_bool]
    rfl
  | none =>
    rw [hc] at e
    refine ⟨.no, rec_read.den 1 (by simp) (h' := [AObj.arr [.list [] .cap] false, AObj.arr [.bool false] false] ++ [.arr [] false]) ?_ rfl rfl⟩
    rw [rec_read.f_eq (rec_read.fx 1)]
    simp only [List.length_nil, List.nil_append, List.length_singleton, BL_canon]
    rw [show ([AObj.arr [.list [] .cap] false] ++ [AObj.arr [.bool false] false] : H) = [AObj.arr [.list [] .cap] false, AObj.arr [.bool false] false] from rfl, e]
    simp only [bind_some', retOr_pan, copy_ptr]
    rw [rec_read.d113_eq]
    simp only [taTo, if_true, bind_some', exTuple_eq]
    rw [show ([AV.agg [], AV.bool true])[0]? = some (AV.agg []) from rfl, show ([AV.agg [], AV.bool true])[1]? = some (AV.bool true) from rfl]
    simp only [bind_some', condV_true]
    rfl
/-- What is got: the changes, how many bytes they had, what is wrong. -/
def getOf (b : List UInt8) : List Change × Nat × Nat :=
  let t := rdT 1048576 ⟨b, 0, 0⟩
  let w := rdW t.2
  if w.2.e ≠ 0 then ([], 0, w.2.e)
  else if crcB (b.take t.2.p) ≠ BitVec.ofNat 32 w.1 then ([], 0, 42)
  else match changesOf t.1 with
    | some l => (l, w.2.p, 0)
    | none => ([], 0, 270)
theorem get_den (b : List UInt8) (hb : b.length ≤ 2 ^ 32) (h : H) : ∃ o, D n_rec_Get [BL b] h = some (.ret (.tuple [CL (getOf b).1 o, .int .i64 (getOf b).2.1, .int .i64 (getOf b).2.2]), h) := by
  obtain ⟨h1, e1, k1, w1⟩ := from_den [] b .no hb
  simp only [List.length_nil] at e1 w1
  have hk : (⟨b, 0, 0⟩ : Rd).ok := ⟨Nat.zero_le _, hb, Nat.zero_le _⟩
  obtain ⟨h2, e2, k2, w2⟩ := textR_den (m := 1048576) w1 hk (by decide)
  rw [show (((1048576 : Nat) : Int)) = 1048576 from rfl] at e2
  have q := rdT_ok (m := 1048576) hk
  have e3 := atR_den w2
  obtain ⟨h4, e4, k4, w4⟩ := wordR_den w2 q.1
  have e5 := errR_den w4
  have e6 := atR_den w4
  have lt := rdW_lt (rdT 1048576 ⟨b, 0, 0⟩).2
  unfold getOf
  simp only []
  generalize ht : rdT 1048576 ⟨b, 0, 0⟩ = t at *
  generalize hw : rdW t.2 = w at *
  have pb : t.2.p ≤ b.length := by have := q.1.1; rw [q.2.2] at this; exact this
  obtain ⟨o, er⟩ := read_den t.1 (by have := q.2.1; omega) h4
  have key : ∃ o', rec_Get.f (rec_Get.JD 1) (BL b) [] = some (.ret (.tuple [CL (if w.2.e ≠ 0 then ([], 0, w.2.e) else if crcB (b.take t.2.p) ≠ BitVec.ofNat 32 w.1 then ([], 0, 42) else match changesOf t.1 with | some l => (l, w.2.p, 0) | none => ([], 0, 270) : List Change × Nat × Nat).1 o', .int .i64 (if w.2.e ≠ 0 then ([], 0, w.2.e) else if crcB (b.take t.2.p) ≠ BitVec.ofNat 32 w.1 then ([], 0, 42) else match changesOf t.1 with | some l => (l, w.2.p, 0) | none => ([], 0, 270) : List Change × Nat × Nat).2.1, .int .i64 (if w.2.e ≠ 0 then ([], 0, w.2.e) else if crcB (b.take t.2.p) ≠ BitVec.ofNat 32 w.1 then ([], 0, 42) else match changesOf t.1 with | some l => (l, w.2.p, 0) | none => ([], 0, 270) : List Change × Nat × Nat).2.2]), h4) := by
    rw [rec_Get.f_eq (rec_Get.fx 1)]
    simp only [BL_canon, e1, bind_some', retOr_ret, canon_ptr, canon_int, e2, e3, e4, e5, bin_neq]
    by_cases he : w.2.e = 0
    · simp only [decide_eq_false (show ¬ ((w.2.e : Int) ≠ 0) by omega), condV_false, if_neg (show ¬ (w.2.e ≠ 0) by omega), BL_to pb, bind_some', BL_canon]
      rw [w32_of lt, whole_den (b.take t.2.p) .no (BitVec.ofNat 32 w.1) (by rw [List.length_take]; omega)]
      simp only [bind_some', retOr_ret, not_bool]
      by_cases hx : crcB (b.take t.2.p) = BitVec.ofNat 32 w.1
      · simp only [decide_eq_true hx, Bool.not_true, condV_false, if_neg (show ¬ (crcB (b.take t.2.p) ≠ BitVec.ofNat 32 w.1) from fun h => h hx), BL_str, bind_some', BL_canon, er, retOr_ret, exTuple_eq]
        cases hc : changesOf t.1 with
        | none => exact ⟨.cap, rfl⟩
        | some l =>
          rw [show ([CL l o, AV.bool true])[0]? = some (CL l o) from rfl, show ([CL l o, AV.bool true])[1]? = some (.bool true) from rfl]
          simp only [bind_some', not_bool, Bool.not_true, condV_false, e6, retOr_ret]
          exact ⟨o, rfl⟩
      · simp only [decide_eq_false hx, Bool.not_false, condV_true, if_pos (show crcB (b.take t.2.p) ≠ BitVec.ofNat 32 w.1 from hx)]
        exact ⟨.cap, rfl⟩
    · simp only [decide_eq_true (show ((w.2.e : Int) ≠ 0) by omega), condV_true, if_pos (show w.2.e ≠ 0 from he), bind_some', e5, retOr_ret]
      exact ⟨.cap, rfl⟩
  obtain ⟨o', key⟩ := key
  exact ⟨o', rec_Get.den 1 (by simp) key (by simp [AV.pure]) rfl⟩
end Go.Proofs.YtdlnkfghgbddhaaGreat
