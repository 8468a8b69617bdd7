/- What the functions of the records' layer come to: 34: bytes are got, by the document. -/
import Derived.Test.YtdlnkfghgbddhaaGreatPJS33
set_option linter.all false

open Go Go.Ve Go.Proofs
namespace Go.Proofs.YtdlnkfghgbddhaaGreat
set_option maxRecDepth 100000
set_option linter.all false

/-- The body with whose frame bytes begin, how many bytes that has, what is wrong. -/
def openOf (b : List UInt8) : List UInt8 × Nat × Nat :=
  let t := rdT 1048576 ⟨b, 0, 0⟩
  let w := rdW t.2
  if w.2.e ≠ 0 then ([], 0, w.2.e)
  else if crcB (b.take t.2.p) ≠ BitVec.ofNat 32 w.1 then ([], 0, 42)
  else (t.1, w.2.p, 0)
theorem openOf_len (b : List UInt8) (hb : b.length ≤ 2 ^ 32) : (openOf b).1.length ≤ 1048576 := by
  have q := rdT_ok (m := 1048576) (r := ⟨b, 0, 0⟩) ⟨Nat.zero_le _, hb, Nat.zero_le _⟩
  unfold openOf
  simp only []
  split
  · exact Nat.zero_le _
  · split
    · exact Nat.zero_le _
    · exact q.2.1
theorem getOf_open (b : List UInt8) : getOf b = if (openOf b).2.2 ≠ 0 then ([], 0, (openOf b).2.2) else match changesOf (openOf b).1 with | some l => (l, (openOf b).2.1, 0) | none => ([], 0, 270) := by
  unfold getOf openOf
  simp only []
  generalize rdT 1048576 ⟨b, 0, 0⟩ = t
  generalize rdW t.2 = w
  by_cases h1 : w.2.e = 0
  · by_cases h2 : crcB (b.take t.2.p) = BitVec.ofNat 32 w.1
    · simp only [h1, h2, ne_eq, not_true_eq_false, if_false]
      cases changesOf t.1 <;> rfl
    · simp [h1, h2]
  · simp only [ne_eq, h1, not_false_eq_true, if_true]
theorem neq_32 (c d : BitVec 32) : bin .neq (w32 c) (w32 d) = some (.bool (decide (c ≠ d))) := by
  rw [bin_neq]
  congr 2
  apply decide_eq_decide.mpr
  constructor
  · intro h e; exact h (by rw [e])
  · intro h e; exact h (BitVec.eq_of_toNat_eq (by omega))
theorem open_den (b : List UInt8) (hb : b.length ≤ 2 ^ 32) (h : H) : ∃ o, D n_warrantorref27_Open [BL b] h = some (.ret (.tuple [BL (openOf b).1 o, .int .i64 (openOf b).2.1, .int .i64 (openOf b).2.2]), h) := by
  obtain ⟨G, hG⟩ : ∃ G : H, G = ([] : H) ++ [AObj.arr ((⟨b, 0, 0⟩ : Rd).cells .no) false] := ⟨_, rfl⟩
  have w1 : RdAt G 0 ⟨b, 0, 0⟩ := ⟨.no, hG ▸ get_new⟩
  have hk : (⟨b, 0, 0⟩ : Rd).ok := ⟨Nat.zero_le _, hb, Nat.zero_le _⟩
  obtain ⟨h2, e2, k2, w2⟩ := dText_den (m := 1048576) w1 hk (by decide)
  rw [show (((1048576 : Nat) : Int)) = 1048576 from rfl] at e2
  have q := rdT_ok (m := 1048576) hk
  obtain ⟨h4, e4, k4, w4⟩ := dWord_den w2 q.1
  have lt := rdW_lt (rdT 1048576 ⟨b, 0, 0⟩).2
  unfold openOf
  simp only []
  generalize ht : rdT 1048576 ⟨b, 0, 0⟩ = t at *
  generalize hw : rdW t.2 = w at *
  have pb : t.2.p ≤ b.length := by have := q.1.1; rw [q.2.2] at this; exact this
  obtain ⟨o2, c2⟩ := w2
  obtain ⟨o4, c4⟩ := w4
  have ap : apSlice 1 1 true false ([] : H) (BL [] .cap) (BL b) = some (BL ([] ++ b) (.own 1)) := BL_app rfl (by simp; omega)
  have key : ∃ o', warrantorref27_Open.f (warrantorref27_Open.JD 1) (BL b) [] = some (.ret (.tuple [BL (if w.2.e ≠ 0 then ([], 0, w.2.e) else if crcB (b.take t.2.p) ≠ BitVec.ofNat 32 w.1 then ([], 0, 42) else (t.1, w.2.p, 0) : List UInt8 × Nat × Nat).1 o', .int .i64 (if w.2.e ≠ 0 then ([], 0, w.2.e) else if crcB (b.take t.2.p) ≠ BitVec.ofNat 32 w.1 then ([], 0, 42) else (t.1, w.2.p, 0) : List UInt8 × Nat × Nat).2.1, .int .i64 (if w.2.e ≠ 0 then ([], 0, w.2.e) else if crcB (b.take t.2.p) ≠ BitVec.ofNat 32 w.1 then ([], 0, 42) else (t.1, w.2.p, 0) : List UInt8 × Nat × Nat).2.2]), h4) := by
    rw [warrantorref27_Open.f_eq (warrantorref27_Open.fx 1), row0, bind_some', ap, bind_some', List.nil_append]
    rw [show mkAgg [.list [] .cap, .int .i64 0, .int .i64 0] [(0, 1, AV.copy (BL b (.own 1)))] = some (.agg ((⟨b, 0, 0⟩ : Rd).cells .no)) from rfl]
    rw [bind_some', bx_agg (cs := (⟨b, 0, 0⟩ : Rd).cells .no) rfl]
    simp only [bind_some', ← hG, List.length_nil, canon_ptr, canon_int, e2, retOr_ret, nilOk_ptr, fAddr_ptr, ld_at c2, cell1, e4, ld_at c4, cell2, bin_neq]
    by_cases he : w.2.e = 0
    · simp only [decide_eq_false (show ¬ ((w.2.e : Int) ≠ 0) by omega), condV_false, if_neg (show ¬ (w.2.e ≠ 0) by omega), BL_to pb, bind_some', BL_canon]
      rw [w32_of lt, rSum_den (b.take t.2.p) .no (by rw [List.length_take]; omega)]
      simp only [bind_some', retOr_ret, neq_32]
      by_cases hx : crcB (b.take t.2.p) = BitVec.ofNat 32 w.1
      · simp only [decide_eq_false (show ¬ (crcB (b.take t.2.p) ≠ BitVec.ofNat 32 w.1) from fun h => h hx), condV_false, if_neg (show ¬ (crcB (b.take t.2.p) ≠ BitVec.ofNat 32 w.1) from fun h => h hx), BL_str, bind_some', ld_at c4, cell1, copy_int]
        exact ⟨_, rfl⟩
      · simp only [decide_eq_true (show (crcB (b.take t.2.p) ≠ BitVec.ofNat 32 w.1) from hx), condV_true, if_pos (show crcB (b.take t.2.p) ≠ BitVec.ofNat 32 w.1 from hx)]
        exact ⟨.cap, rfl⟩
    · simp only [decide_eq_true (show ((w.2.e : Int) ≠ 0) by omega), condV_true, if_pos (show w.2.e ≠ 0 from he), bind_some', copy_int]
      exact ⟨.cap, rfl⟩
  obtain ⟨o', key⟩ := key
  exact ⟨o', warrantorref27_Open.den 1 (by simp) key (by simp [AV.pure]) rfl⟩
theorem rget_den (b : List UInt8) (hb : b.length ≤ 2 ^ 32) (h : H) : ∃ o, D n_warrantorref27_Get [BL b] h = some (.ret (.tuple [CL (getOf b).1 o, .int .i64 (getOf b).2.1, .int .i64 (getOf b).2.2]), h) := by
  obtain ⟨o1, e1⟩ := open_den b hb []
  have ql := openOf_len b hb
  obtain ⟨o2, e2⟩ := dchanges_den (openOf b).1 .no (by omega) []
  rw [getOf_open]
  generalize openOf b = u at *
  have key : ∃ o, warrantorref27_Get.f (warrantorref27_Get.JD 1) (BL b) [] = some (.ret (.tuple [CL (if u.2.2 ≠ 0 then ([], 0, u.2.2) else match changesOf u.1 with | some l => (l, u.2.1, 0) | none => ([], 0, 270) : List Change × Nat × Nat).1 o, .int .i64 (if u.2.2 ≠ 0 then ([], 0, u.2.2) else match changesOf u.1 with | some l => (l, u.2.1, 0) | none => ([], 0, 270) : List Change × Nat × Nat).2.1, .int .i64 (if u.2.2 ≠ 0 then ([], 0, u.2.2) else match changesOf u.1 with | some l => (l, u.2.1, 0) | none => ([], 0, 270) : List Change × Nat × Nat).2.2]), []) := by
    rw [warrantorref27_Get.f_eq (warrantorref27_Get.fx 1)]
    simp only [BL_canon, e1, bind_some', retOr_ret, exTuple_eq]
    rw [show ([BL u.1 o1, AV.int .i64 u.2.1, AV.int .i64 u.2.2])[0]? = some (BL u.1 o1) from rfl, show ([BL u.1 o1, AV.int .i64 u.2.1, AV.int .i64 u.2.2])[1]? = some (AV.int .i64 u.2.1) from rfl, show ([BL u.1 o1, AV.int .i64 u.2.1, AV.int .i64 u.2.2])[2]? = some (AV.int .i64 u.2.2) from rfl]
    simp only [bind_some', bin_neq]
    by_cases he : u.2.2 = 0
    · simp only [decide_eq_false (show ¬ ((u.2.2 : Int) ≠ 0) by omega), condV_false, if_neg (show ¬ (u.2.2 ≠ 0) by omega), BL_canon, e2, bind_some', retOr_ret, exTuple_eq]
      cases hc : changesOf u.1 with
      | none => exact ⟨.cap, rfl⟩
      | some l => exact ⟨o2, rfl⟩
    · simp only [decide_eq_true (show ((u.2.2 : Int) ≠ 0) by omega), condV_true, if_pos (show u.2.2 ≠ 0 from he)]
      exact ⟨.cap, rfl⟩
  obtain ⟨o, key⟩ := key
  exact ⟨o, warrantorref27_Get.den 1 (by simp) key (by simp [AV.pure]) rfl⟩
end Go.Proofs.YtdlnkfghgbddhaaGreat
