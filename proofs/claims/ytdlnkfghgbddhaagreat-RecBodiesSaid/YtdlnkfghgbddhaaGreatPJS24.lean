/- What the functions of the records' layer come to: 24: a body is read, by the program. -/
import Derived.Test.YtdlnkfghgbddhaaGreatPJS23
set_option linter.all false

open Go Go.Ve Go.Proofs
namespace Go.Proofs.YtdlnkfghgbddhaaGreat
set_option maxRecDepth 100000
set_option linter.all false

theorem get_step {J : Jn (AEnd × H)} {k : Nat} (hJ : rec_changes.F D k J) {m0 m1 id pi q i f n : Nat} {r : Rd} {x : Change} {A B C E V : AV} {h h' : H} (s : TS id pi q r x h) (hi : i < n) (hn : n < 100) (hx : ixSlice 1 V (.int .i64 i) = some (.rptr [Fn1 f] 0)) (e : D f [.agg [.ptr id 0], .ptr q 1] h = some (.ret (.tuple []), h')) :
    rec_changes.l1 J m0 (m1 + 1) A (.ptr pi 0) B (.ptr q 0) C E V (.int .i64 n) (.int .i64 i) h = rec_changes.l1 J m0 m1 A (.ptr pi 0) B (.ptr q 0) C E V (.int .i64 n) (.int .i64 ((i + 1 : Nat) : Int)) h' := by
  rw [rec_changes.l1_eq hJ]
  simp only [lssN, decide_eq_true hi, bind_some', condV_true, hx, ldCell_rptr]
  rw [show ([Fn1 f])[0]? = some (Fn1 f) from rfl]
  simp only [bind_some', ldA_at s.p, ptr1, canonP, fAddr_ptr, canon_ptr]
  rw [show ∀ a h, callVal D h (Fn1 f) a = D f a h from fun a h => by simp [callVal], e]
  simp only [bind_some', retOr_ret, add1 i (by omega)]
/-- What kinds reads behind a change's fingerprint. -/
theorem gets_den {J : Jn (AEnd × H)} {k : Nat} (hJ : rec_changes.F D k J) {m0 m1 id pi q z : Nat} {r : Rd} {kd : Int} {f : Fin 18446744073709551616} {A B C E : AV} {h : H} (s : TS id pi q r ⟨kd, f, .none, 0, 0, []⟩ h) :
    ∃ V n m2 h', (kindOf z kd)[1]? = some V ∧ lnSl V = some (.int .i64 (n : Nat)) ∧ 0 < m2 ∧ rec_changes.l1 J m0 (m1 + 4) A (.ptr pi 0) B (.ptr q 0) C E V (.int .i64 n) (.int .i64 0) h = rec_changes.l1 J m0 m2 A (.ptr pi 0) B (.ptr q 0) C E V (.int .i64 n) (.int .i64 n) h' ∧ Keep [id, q] h h' ∧ TS id pi q (rdK kd r).2 ⟨kd, f, (rdK kd r).1.1, (rdK kd r).1.2.1.1, (rdK kd r).1.2.1.2, (rdK kd r).1.2.2⟩ h' := by
  rw [show (.int .i64 0 : AV) = .int .i64 ((0 : Nat) : Int) from rfl]
  by_cases h1 : kd = 1
  · have e : kindOf z kd = K1 z := by unfold kindOf; rw [if_pos h1]
    have er : rdK kd r = (((rdA r).1, (0, 0), []), (rdA r).2) := by
      unfold rdK
      simp only [if_pos (show kd = 1 ∨ kd = 5 from .inl h1), if_neg (show ¬ kd = 5 by omega), if_neg (show ¬ (kd = 2 ∨ kd = 5) by omega)]
    obtain ⟨g1, e1, k1, s1⟩ := takeAlarm_den s
    rw [e, er]
    exact ⟨_, 1, m1 + 3, g1, rfl, rfl, by omega, get_step hJ s (i := 0) (n := 1) (by omega) (by omega) (f := n_rec_taker_alarm) rfl e1, k1, s1⟩
  by_cases h2 : kd = 2
  · have e : kindOf z kd = K2 z := by unfold kindOf; rw [if_neg h1, if_pos h2]
    have er : rdK kd r = ((.none, (0, 0), (rdT 1048576 r).1), (rdT 1048576 r).2) := by
      unfold rdK
      simp only [if_neg (show ¬ (kd = 1 ∨ kd = 5) by omega), if_neg (show ¬ kd = 5 by omega), if_pos (show kd = 2 ∨ kd = 5 from .inl h2)]
    obtain ⟨g1, e1, k1, s1⟩ := takeNote_den s
    rw [e, er]
    exact ⟨_, 1, m1 + 3, g1, rfl, rfl, by omega, get_step hJ s (i := 0) (n := 1) (by omega) (by omega) (f := n_rec_taker_note) rfl e1, k1, s1⟩
  by_cases h5 : kd = 5
  · have e : kindOf z kd = K5 := by unfold kindOf; rw [if_neg h1, if_neg h2, if_neg (by omega), if_neg (by omega), if_pos h5]
    have er : rdK kd r = (((rdA r).1, (rdS (rdA r).2).1, (rdT 1048576 (rdS (rdA r).2).2).1), (rdT 1048576 (rdS (rdA r).2).2).2) := by
      unfold rdK
      simp only [if_pos (show kd = 1 ∨ kd = 5 from .inr h5), if_pos h5, if_pos (show kd = 2 ∨ kd = 5 from .inr h5)]
    obtain ⟨g1, e1, k1, s1⟩ := takeAlarm_den s
    rw [e, er]
    generalize rdA r = a at s1 ⊢
    obtain ⟨g2, e2, k2, s2⟩ := takeStand_den s1
    generalize rdS a.2 = b at s2 ⊢
    obtain ⟨g3, e3, k3, s3⟩ := takeNote_den s2
    generalize rdT 1048576 b.2 = c at s3 ⊢
    simp only at s1 s2 s3 ⊢
    exact ⟨_, 3, m1 + 1, g3, rfl, rfl, by omega, (get_step hJ s (i := 0) (n := 3) (by omega) (by omega) (f := n_rec_taker_alarm) rfl e1).trans ((get_step hJ s1 (i := 1) (n := 3) (by omega) (by omega) (f := n_rec_taker_stand) rfl e2).trans (get_step hJ s2 (i := 2) (n := 3) (by omega) (by omega) (f := n_rec_taker_note) rfl e3)), k1.trans (k2.trans k3), s3⟩
  · have er : rdK kd r = ((.none, (0, 0), []), r) := by
      unfold rdK
      simp only [if_neg (show ¬ (kd = 1 ∨ kd = 5) by omega), if_neg h5, if_neg (show ¬ (kd = 2 ∨ kd = 5) by omega)]
    have e : (kindOf z kd)[1]? = some (.list [] .cap) := by
      unfold kindOf
      rw [if_neg h1, if_neg h2]
      split
      · rfl
      split
      · rfl
      · rfl
    rw [er]
    exact ⟨_, 0, m1 + 4, h, e, rfl, by omega, rfl, .refl _ _, s⟩
end Go.Proofs.YtdlnkfghgbddhaaGreat
