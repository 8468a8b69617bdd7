/- What the functions of the records' layer come to: 25: a body is read, by the program. -/
import Derived.Test.YtdlnkfghgbddhaaGreatPJS24
set_option linter.all false

open Go Go.Ve Go.Proofs
namespace Go.Proofs.YtdlnkfghgbddhaaGreat
set_option maxRecDepth 100000
set_option linter.all false

theorem eqB_loop {J : Jn (AEnd × H)} {k : Nat} (hJ : slices_Equal_byte_byte.F D k J) (l l' : List UInt8) (he : l.length = l'.length) (hl : l.length ≤ 2 ^ 50) (h : H) : ∀ (d i m : Nat), i + d = l.length → d < m →
    slices_Equal_byte_byte.l0 J m (BL l) (BL l') (.int .i64 l.length) (.int .i64 i) h = some (.ret (.bool (decide (l.drop i = l'.drop i))), h)
  | 0, i, m + 1, hi, _ => by
    rw [slices_Equal_byte_byte.l0_eq hJ]
    simp only [bind_some', lssN, decide_eq_false (show ¬ i < l.length by omega), condV_false]
    rw [List.drop_of_length_le (by omega), List.drop_of_length_le (by omega)]
    rfl
  | d + 1, i, m + 1, hi, hm => by
    have hil : i < l.length := by omega
    have hil' : i < l'.length := by omega
    have ih := eqB_loop hJ l l' he hl h d (i + 1) m (by omega) (by omega)
    rw [slices_Equal_byte_byte.l0_eq hJ, List.drop_eq_getElem_cons hil, List.drop_eq_getElem_cons hil']
    simp only [bind_some', lssN, decide_eq_true hil, condV_true, BL_at hil, BL_at hil', ldCell_rptr, byteRow_0, neqN, add1 i (by omega), ih, List.cons.injEq]
    by_cases hx : l[i] = l'[i]
    · simp only [hx, decide_true, Bool.not_true, condV_false, true_and]
    · have : ¬ l[i].toNat = l'[i].toNat := fun h => hx (UInt8.toNat.inj h)
      simp only [decide_eq_false this, Bool.not_false, condV_true, hx, false_and, decide_false]
theorem eqB_den (l l' : List UInt8) (hl : l.length ≤ 2 ^ 50) (h : H) : D n_slices_Equal_byte_byte [BL l, BL l'] h = some (.ret (.bool (decide (l = l'))), h) := by
  refine slices_Equal_byte_byte.den (l.length + 1) (by simp) (h' := []) ?_ rfl rfl
  rw [slices_Equal_byte_byte.f_eq (slices_Equal_byte_byte.fx _)]
  simp only [BL_len, bind_some', neqN]
  by_cases he : l.length = l'.length
  · simp only [decide_eq_true he, Bool.not_true, condV_false]
    exact eqB_loop (slices_Equal_byte_byte.fx _) l l' he hl [] l.length 0 (l.length + 1) (by omega) (by omega)
  · simp only [decide_eq_false he, Bool.not_false, condV_true]
    rw [decide_eq_false (fun h => he (by rw [h]))]
/-- What comes of reading a body. -/
def chRes (b : List UInt8) (l : List Change) (r : Rd) : AEnd := if (rdE r).e = 0 ∧ batch l = true ∧ bodyB l = b then .ret (CL l) else .pan brkR
theorem changes_end {J : Jn (AEnd × H)} {k : Nat} (hJ : rec_changes.F D k J) {m id pi n : Nat} {b : List UInt8} {r : Rd} {l : List Change} {o : Own} {h : H} (hp : h[pi]? = some (.arr [.ptr id 0] false)) (w : RdAt h id r) (hk : r.ok) (hne : pi ≠ id) (hl : l.length ≤ 2 ^ 50) :
    ∃ h' o', rec_changes.l0 J (m + 1) (BL b) (.ptr pi 0) (CL l o) (.int .i64 n) (.int .i64 n) h = some (match chRes b l r with | .ret _ => .ret (CL l o') | .pan v => .pan v, h') := by
  obtain ⟨h1, e1, k1, w1⟩ := endR_den w hk
  have p1 := k1.get hp (by simp; exact hne)
  have e2 := errR_den w1
  refine ⟨h1, o, ?_⟩
  rw [rec_changes.l0_eq hJ]
  simp only [lssN, decide_eq_false (show ¬ n < n by omega), bind_some', condV_false, fAddr_ptr, ld_at hp, ptr0, canon_ptr, e1, retOr_ret, ld_at p1, e2, bin_eql]
  unfold chRes
  by_cases he : (rdE r).e = 0
  · simp only [decide_eq_true (show (((rdE r).e : Int) = 0) by omega), condV_true, canon_list, batch_den l hl, bind_some', retOr_ret]
    cases hb : batch l with
    | false =>
      simp only [condV_false, canon_bool, must_den, bind_some', Bool.false_eq_true, if_false, retOr_pan, false_and, and_false]
    | true =>
      have bl := bodyB_len hb
      simp only [condV_true, body_den l hb, bind_some', retOr_ret, BL_canon, eqB_den _ b (show (bodyB l).length ≤ 2 ^ 50 by omega), canon_bool, must_den]
      by_cases hx : bodyB l = b
      · simp only [decide_eq_true hx, if_true, retOr_ret, if_pos (show (rdE r).e = 0 ∧ True ∧ bodyB l = b from ⟨he, trivial, hx⟩)]
      · simp only [decide_eq_false hx, Bool.false_eq_true, if_false, retOr_pan, if_neg (show ¬ ((rdE r).e = 0 ∧ True ∧ bodyB l = b) from fun h => hx h.2.2)]
  · simp only [decide_eq_false (show ¬ (((rdE r).e : Int) = 0) by omega), condV_false, canon_bool, must_den, bind_some', Bool.false_eq_true, if_false, retOr_pan, if_neg (show ¬ ((rdE r).e = 0 ∧ batch l = true ∧ bodyB l = b) from fun h => he h.1)]
end Go.Proofs.YtdlnkfghgbddhaaGreat
