/- What the functions of the records' layer come to: 18: a body, by the program. -/
import Derived.Test.YtdlnkfghgbddhaaGreatPJS17
set_option linter.all false

open Go Go.Ve Go.Proofs
namespace Go.Proofs.YtdlnkfghgbddhaaGreat
set_option maxRecDepth 100000
set_option linter.all false

theorem ok_cases {x : Change} (h : x.ok = true) :
    (x.kind = 1 ∧ x.entry.alarm.ok = true ∧ x.entry.state = 0 ∧ x.entry.count = 0 ∧ x.entry.note = []) ∨ (x.kind = 2 ∧ noteS x.entry.note = true ∧ x.entry.alarm = .none ∧ x.entry.state = 0 ∧ x.entry.count = 0) ∨
    ((x.kind = 3 ∨ x.kind = 4) ∧ x.entry.alarm = .none ∧ x.entry.state = 0 ∧ x.entry.count = 0 ∧ x.entry.note = []) ∨ (x.kind = 5 ∧ x.entry.ok = true) := by
  unfold Change.ok at h
  by_cases h1 : x.kind = 1
  · rw [if_pos h1] at h
    simp only [Bool.and_eq_true, decide_eq_true_eq] at h
    exact .inl ⟨h1, h⟩
  rw [if_neg h1] at h
  by_cases h2 : x.kind = 2
  · rw [if_pos h2] at h
    simp only [Bool.and_eq_true, decide_eq_true_eq] at h
    exact .inr (.inl ⟨h2, h⟩)
  rw [if_neg h2] at h
  by_cases h3 : x.kind = 3 ∨ x.kind = 4
  · rw [if_pos h3] at h
    simp only [decide_eq_true_eq] at h
    exact .inr (.inr (.inl ⟨h3, h⟩))
  rw [if_neg h3] at h
  by_cases h5 : x.kind = 5
  · rw [if_pos h5] at h
    exact .inr (.inr (.inr ⟨h5, h⟩))
  rw [if_neg h5] at h
  exact Bool.noConfusion h
theorem noteS_len {s : List UInt8} (h : noteS s = true) : s.length ≤ 64 := by
  unfold noteS at h
  simp only [Bool.and_eq_true, decide_eq_true_eq] at h
  exact h.1
theorem Entry.ok_nums {e : Entry} (h : e.ok = true) : e.alarm.ok = true ∧ 1 ≤ e.state ∧ e.state ≤ 3 ∧ 1 ≤ e.count ∧ e.count ≤ 1048576 ∧ noteS e.note = true := by
  unfold Entry.ok at h
  simp only [Bool.and_eq_true, decide_eq_true_eq] at h
  exact ⟨h.1, h.2.1.1, h.2.1.2, h.2.2.1.1, h.2.2.1.2, h.2.2.2.1⟩
theorem ok_kind {x : Change} (h : x.ok = true) : 1 ≤ x.kind ∧ x.kind ≤ 5 := by
  rcases ok_cases h with h | h | h | h <;> omega
theorem stB_len {e : Entry} (h1 : 1 ≤ e.state ∧ e.state ≤ 3) (h2 : 1 ≤ e.count ∧ e.count ≤ 1048576) : (stB e).length ≤ 20 := by
  have l1 := lebB_10 (n := e.state.toNat) (by omega)
  have l2 := lebB_10 (n := e.count.toNat) (by omega)
  simp [stB]; omega
theorem tailB_len {x : Change} (h : x.ok = true) : (tailB x.kind x.entry).length ≤ 400 := by
  unfold tailB
  rcases ok_cases h with h | h | h | h
  · have := alB_len h.2.1
    rw [if_pos (.inl h.1), if_neg (by omega), if_neg (by omega)]
    simp; omega
  · have := txB_len (s := x.entry.note) (by have := noteS_len h.2.1; omega)
    have := noteS_len h.2.1
    rw [if_neg (by omega), if_neg (by omega), if_pos (.inl h.1)]
    simp; omega
  · rw [if_neg (by omega), if_neg (by omega), if_neg (by omega)]
    simp
  · obtain ⟨h5, h⟩ := h
    have q := Entry.ok_nums h
    have l1 := alB_len q.1
    have l2 := txB_len (s := x.entry.note) (by have := noteS_len q.2.2.2.2.2; omega)
    have := noteS_len q.2.2.2.2.2
    have l3 := stB_len ⟨q.2.1, q.2.2.1⟩ ⟨q.2.2.2.1, q.2.2.2.2.1⟩
    rw [if_pos (.inr h5), if_pos h5, if_pos (.inr h5)]
    simp; omega
theorem chB_len {x : Change} (h : x.ok = true) : (chB x).length ≤ 500 := by
  have l1 := tailB_len h
  have l2 := lebB_10 (n := x.kind.toNat) (by have := ok_kind h; omega)
  have l3 := fiB_len x.entry.finger.val
  simp [chB]; omega
theorem flat_len {l : List Change} (h : l.all Change.ok = true) : (l.flatMap chB).length ≤ 500 * l.length := by
  induction l with
  | nil => simp
  | cons x l ih =>
    simp only [List.all_cons, Bool.and_eq_true] at h
    have l1 := chB_len h.1
    have l2 := ih h.2
    simp only [List.flatMap_cons, List.length_append, List.length_cons]
    omega
theorem bodyB_len {l : List Change} (h : batch l = true) : (bodyB l).length ≤ 300000 := by
  unfold batch at h
  simp only [Bool.and_eq_true, decide_eq_true_eq] at h
  have l1 := flat_len h.1
  have l2 := lebB_10 (n := l.length) (by omega)
  simp only [bodyB, List.length_append]
  omega

theorem Change.aggAt10 (x : Change) : aggAt 10 x.c (0 + 1) = some (.agg x.entry.c) := rfl
theorem Change.fing (x : Change) : x.c[0 + 1 + 0]? = some (.int .u64 (x.entry.finger.val : Int)) := rfl
/-- The functions that write a change's fields, one behind the other. -/
theorem put_step {J : Jn (AEnd × H)} {k : Nat} (hJ : rec_body.F D k J) {m0 m1 pen pi pe i f n : Nat} {x : Change} {A B C V : AV} {h h' : H} {b : List UInt8} (s : PS pen pi pe x.c b h) (hi : i < n) (hn : n < 100) (hx : ixSlice 1 V (.int .i64 i) = some (.rptr [Fn1 f] 0)) (e : D f [.agg [.ptr pen 0], .agg x.entry.c] h = some (.ret (.tuple []), h')) :
    rec_body.l1 J m0 (m1 + 1) (.ptr pi 0) (.ptr pe 0) A B C V (.int .i64 n) (.int .i64 i) h = rec_body.l1 J m0 m1 (.ptr pi 0) (.ptr pe 0) A B C V (.int .i64 n) (.int .i64 ((i + 1 : Nat) : Int)) h' := by
  rw [rec_body.l1_eq hJ]
  simp only [lssN, decide_eq_true hi, bind_some', condV_true, hx, ldCell_rptr]
  rw [show ([Fn1 f])[0]? = some (Fn1 f) from rfl]
  simp only [bind_some', ldA_at s.p, fAddr_ptr, ldA_at s.e, x.aggAt10]
  rw [show aggAt 1 [AV.ptr pen 0] 0 = some (.agg [.ptr pen 0]) from rfl]
  simp only [bind_some']
  rw [show AV.canon (.agg [.ptr pen 0]) = .agg [.ptr pen 0] from rfl, canon_agg, Entry.c_canon]
  rw [show ∀ a h, callVal D h (Fn1 f) a = D f a h from fun a h => by simp [callVal], e]
  simp only [bind_some', retOr_ret, add1 i (by omega)]
theorem put_end {J : Jn (AEnd × H)} {k : Nat} (hJ : rec_body.F D k J) {m0 m1 c n : Nat} (hc : c < 2 ^ 50) {X Y A B V : AV} {h : H} :
    rec_body.l1 J m0 (m1 + 1) X Y A B (.int .i64 c) V (.int .i64 n) (.int .i64 n) h = rec_body.l0 J m0 X A B (.int .i64 ((c + 1 : Nat) : Int)) h := by
  rw [rec_body.l1_eq hJ]
  simp only [lssN, decide_eq_false (show ¬ n < n by omega), bind_some', condV_false, add1 c (by omega)]
/-- What kinds writes behind a change's fingerprint. -/
theorem puts_den {J : Jn (AEnd × H)} {k : Nat} (hJ : rec_body.F D k J) {m0 m1 pen pi pe c z : Nat} (hc : c < 2 ^ 50) {x : Change} (hx : x.ok = true) {A B : AV} {h : H} {b : List UInt8} (s : PS pen pi pe x.c b h) (hl : b.length ≤ 2 ^ 37) :
    ∃ V n h', (kindOf z x.kind)[0]? = some V ∧ lnSl V = some (.int .i64 n) ∧ rec_body.l1 J m0 (m1 + 4) (.ptr pi 0) (.ptr pe 0) A B (.int .i64 c) V (.int .i64 n) (.int .i64 0) h = rec_body.l0 J m0 (.ptr pi 0) A B (.int .i64 ((c + 1 : Nat) : Int)) h' ∧ Keep [pen] h h' ∧ PS pen pi pe x.c (b ++ tailB x.kind x.entry) h' := by
  rw [show (.int .i64 0 : AV) = .int .i64 ((0 : Nat) : Int) from rfl]
  unfold kindOf tailB
  rcases ok_cases hx with q | q | q | q
  · rw [if_pos q.1, if_pos (.inl q.1), if_neg (by omega), if_neg (by omega)]
    obtain ⟨h1, e1, k1, w1⟩ := penAlarm_den x.entry q.2.1 s.w (by omega)
    refine ⟨_, 1, h1, rfl, rfl, ?_, k1, by simpa using s.keep k1 w1⟩
    exact (put_step hJ s (i := 0) (n := 1) (by omega) (by omega) (f := n_rec_pen_alarm) rfl e1).trans (put_end hJ hc)
  · rw [if_neg (by omega), if_pos q.1, if_neg (by omega), if_neg (by omega), if_pos (.inl q.1)]
    obtain ⟨h1, e1, k1, w1⟩ := penNote_den x.entry (noteS_len q.2.1) s.w (by omega)
    refine ⟨_, 1, h1, rfl, rfl, ?_, k1, by simpa using s.keep k1 w1⟩
    exact (put_step hJ s (i := 0) (n := 1) (by omega) (by omega) (f := n_rec_pen_note) rfl e1).trans (put_end hJ hc)
  · have e : ∀ X Y : List AV, (if x.kind = 1 then X else if x.kind = 2 then Y else if x.kind = 3 then K3 else if x.kind = 4 then K3 else if x.kind = 5 then K5 else K0) = K3 := by
      intro X Y
      rw [if_neg (by omega), if_neg (by omega)]
      rcases q.1 with q | q
      · rw [if_pos q]
      · rw [if_neg (by omega), if_pos q]
    rw [e, if_neg (by omega), if_neg (by omega), if_neg (by omega)]
    refine ⟨_, 0, h, rfl, rfl, ?_, .refl _ _, by simpa using s⟩
    exact put_end hJ hc (n := 0)
  · obtain ⟨q, hq⟩ := q
    have r := Entry.ok_nums hq
    rw [if_neg (by omega), if_neg (by omega), if_neg (by omega), if_neg (by omega), if_pos q, if_pos (.inr q), if_pos q, if_pos (.inr q)]
    have a1 := alB_len r.1
    have a2 := stB_len ⟨r.2.1, r.2.2.1⟩ ⟨r.2.2.2.1, r.2.2.2.2.1⟩
    obtain ⟨h1, e1, k1, w1⟩ := penAlarm_den x.entry r.1 s.w (by omega)
    have s1 := s.keep k1 w1
    obtain ⟨h2, e2, k2, w2⟩ := penStand_den x.entry ⟨r.2.1, r.2.2.1⟩ ⟨r.2.2.2.1, r.2.2.2.2.1⟩ s1.w (by simp; omega)
    have s2 := s1.keep k2 w2
    obtain ⟨h3, e3, k3, w3⟩ := penNote_den x.entry (noteS_len r.2.2.2.2.2) s2.w (by simp; omega)
    refine ⟨_, 3, h3, rfl, rfl, ?_, k1.trans (k2.trans k3), by simpa [List.append_assoc] using s2.keep k3 w3⟩
    exact (put_step hJ s (i := 0) (n := 3) (by omega) (by omega) (f := n_rec_pen_alarm) rfl e1).trans ((put_step hJ s1 (i := 1) (n := 3) (by omega) (by omega) (f := n_rec_pen_stand) rfl e2).trans ((put_step hJ s2 (i := 2) (n := 3) (by omega) (by omega) (f := n_rec_pen_note) rfl e3).trans (put_end hJ hc)))
end Go.Proofs.YtdlnkfghgbddhaaGreat
