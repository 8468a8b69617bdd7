/- What the functions of the records' layer come to: 30: a change is read, by the document: in all. -/
import Derived.Test.YtdlnkfghgbddhaaGreatPJS29
set_option linter.all false

open Go Go.Ve Go.Proofs
namespace Go.Proofs.YtdlnkfghgbddhaaGreat
set_option maxRecDepth 100000
set_option linter.all false

theorem dj_end {id q z : Nat} {r : Rd} {x : Change} {h : H} (s : DS id q z r x h) : stN 11 h (.ptr z 0) (.agg x.c) = some (.undef, h.set z (.arr x.c false)) ∧ ldAgg 11 (h.set z (.arr x.c false)) (.ptr z 0) = some (.agg x.c) ∧ RdAt (h.set z (.arr x.c false)) id r := by
  obtain ⟨y, hy⟩ := s.o
  refine ⟨?_, ?_, (Keep.set (ids := [z]) (by simp)).rd s.w (by simp; exact fun e => s.nz e.symm)⟩
  · rw [st_agg (n := 11) hy (by rw [Change.c_len, Change.c_len]; decide) x.c_len x.c_one]
    simp [List.drop_of_length_le (show y.c.length ≤ 11 by rw [Change.c_len]; decide)]
  · rw [ldA_at (get_set hy), Change.agg]
theorem dj3 {J : Jn (AEnd × H)} {k : Nat} (hJ : warrantorref27_change.F D k J) {id q z : Nat} {r : Rd} {x : Change} {h : H} (s : DS id q z r x h) (b : Bool) : ∃ h', warrantorref27_change.j3 J (.ptr id 0) (.ptr z 0) (.ptr q 0) (.bool b) h = some (.ret (.agg (if b then { x with entry := { x.entry with note := (rdT 1048576 r).1 } } else x).c), h') ∧ Keep [id, q, z] h h' ∧ RdAt h' id (if b then (rdT 1048576 r).2 else r) := by
  rw [warrantorref27_change.j3_eq hJ]
  cases b with
  | false =>
    obtain ⟨e1, e2, e3⟩ := dj_end s
    refine ⟨_, ?_, keep3 (.inr rfl), e3⟩
    simp only [condV_false, ldA_at s.c, Change.agg, bind_some', copy_agg, Change.c_copy, e1, e2, resN, Option.map_some, Bool.false_eq_true, if_false]
  | true =>
    obtain ⟨h1, e1, k1, s1⟩ := s.text
    have t1 := s1.setS { x with entry := { x.entry with note := (rdT 1048576 r).1 } } 10 (rdT 1048576 r).1 (by decide) rfl
    have s2 := s1.put (y := { x with entry := { x.entry with note := (rdT 1048576 r).1 } })
    obtain ⟨e4, e5, e6⟩ := dj_end s2
    refine ⟨_, ?_, (keep1 k1).trans ((keep3 (.inl rfl)).trans (keep3 (.inr rfl))), e6⟩
    simp only [condV_true, canon_ptr, canon_int, e1, bind_some', retOr_ret, fAddr_ptr, show 0 + 1 + 9 = 10 from rfl, t1, ldA_at s2.c, Change.agg, copy_agg, Change.c_copy, e4, e5, resN, Option.map_some, if_true]
theorem dj2 {J : Jn (AEnd × H)} {k : Nat} (hJ : warrantorref27_change.F D k J) {id q z : Nat} {r : Rd} {x : Change} {h : H} (s : DS id q z r x h) : ∃ h', warrantorref27_change.j2 J (.ptr id 0) (.ptr z 0) (.ptr q 0) h = some (.ret (.agg (if x.kind = 2 ∨ x.kind = 5 then { x with entry := { x.entry with note := (rdT 1048576 r).1 } } else x).c), h') ∧ Keep [id, q, z] h h' ∧ RdAt h' id (if x.kind = 2 ∨ x.kind = 5 then (rdT 1048576 r).2 else r) := by
  rw [warrantorref27_change.j2_eq hJ]
  simp only [fAddr_ptr, bind_some', ld_at s.c, Change.c0, bin_eql]
  by_cases h2 : x.kind = 2
  · simp only [decide_eq_true h2, condV_true, if_pos (show x.kind = 2 ∨ x.kind = 5 from .inl h2)]
    exact dj3 hJ s true
  · by_cases h5 : x.kind = 5
    · simp only [decide_eq_false h2, decide_eq_true h5, condV_false, if_pos (show x.kind = 2 ∨ x.kind = 5 from .inr h5)]
      exact dj3 hJ s true
    · simp only [decide_eq_false h2, decide_eq_false h5, condV_false, if_neg (show ¬ (x.kind = 2 ∨ x.kind = 5) by omega)]
      exact dj3 hJ s false
theorem dj0 {J : Jn (AEnd × H)} {k : Nat} (hJ : warrantorref27_change.F D k J) {id q z : Nat} {r : Rd} {x : Change} {h : H} (s : DS id q z r x h) : ∃ (h' : H) (y : Change) (r' : Rd), warrantorref27_change.j0 J (.ptr id 0) (.ptr z 0) (.ptr q 0) h = some (.ret (.agg y.c), h') ∧ Keep [id, q, z] h h' ∧ RdAt h' id r' ∧ y = (let s := if x.kind = 5 then rdS r else ((x.entry.state, x.entry.count), r); let n := if x.kind = 2 ∨ x.kind = 5 then rdT 1048576 s.2 else (x.entry.note, s.2); ⟨x.kind, x.entry.finger, x.entry.alarm, s.1.1, s.1.2, n.1⟩) ∧ r' = (let s := if x.kind = 5 then rdS r else ((x.entry.state, x.entry.count), r); let n := if x.kind = 2 ∨ x.kind = 5 then rdT 1048576 s.2 else (x.entry.note, s.2); n.2) := by
  rw [warrantorref27_change.j0_eq hJ]
  simp only [fAddr_ptr, bind_some', ld_at s.c, Change.c0, bin_eql]
  by_cases h5 : x.kind = 5
  · obtain ⟨h1, e1, k1, s1⟩ := s.num
    obtain ⟨x1, hx1⟩ : ∃ x1 : Change, x1 = { x with entry := { x.entry with state := (rdN 1048576 r).1 } } := ⟨_, rfl⟩
    have t1 := s1.setI x1 8 (rdN 1048576 r).1 (by decide) (by rw [hx1]; rfl)
    have s2 := s1.put (y := x1)
    obtain ⟨h3, e3, k3, s3⟩ := s2.num
    obtain ⟨x2, hx2⟩ : ∃ x2 : Change, x2 = { x1 with entry := { x1.entry with count := (rdN 1048576 (rdN 1048576 r).2).1 } } := ⟨_, rfl⟩
    have t3 := s3.setI x2 9 (rdN 1048576 (rdN 1048576 r).2).1 (by decide) (by rw [hx2]; rfl)
    have s4 := s3.put (y := x2)
    obtain ⟨h', e, kk, w⟩ := dj2 hJ s4
    have hk : x2.kind = 5 := by rw [hx2, hx1]; exact h5
    rw [if_pos (show x2.kind = 2 ∨ x2.kind = 5 from .inr hk)] at e w
    refine ⟨h', { x2 with entry := { x2.entry with note := (rdT 1048576 (rdN 1048576 (rdN 1048576 r).2).2).1 } }, (rdT 1048576 (rdN 1048576 (rdN 1048576 r).2).2).2, ?_, (keep1 k1).trans ((keep3 (.inl rfl)).trans ((keep1 k3).trans ((keep3 (.inl rfl)).trans kk))), w, ?_, ?_⟩
    · simp only [decide_eq_true h5, condV_true, canon_ptr, canon_int, e1, bind_some', retOr_ret, fAddr_ptr, show 0 + 1 + 7 = 8 from rfl, show 0 + 1 + 8 = 9 from rfl, t1, e3, t3]
      exact e
    · simp only [if_pos h5, if_pos (show x.kind = 2 ∨ x.kind = 5 from .inr h5)]
      rw [hx2, hx1]
      rfl
    · simp only [if_pos h5, if_pos (show x.kind = 2 ∨ x.kind = 5 from .inr h5)]
      rfl
  · obtain ⟨h', e, kk, w⟩ := dj2 hJ s
    refine ⟨h', (if x.kind = 2 ∨ x.kind = 5 then { x with entry := { x.entry with note := (rdT 1048576 r).1 } } else x), (if x.kind = 2 ∨ x.kind = 5 then (rdT 1048576 r).2 else r), ?_, kk, w, ?_, ?_⟩
    · simp only [decide_eq_false h5, condV_false]
      exact e
    · simp only [if_neg h5]
      by_cases h2 : x.kind = 2 ∨ x.kind = 5
      · simp only [if_pos h2]
      · simp only [if_neg h2]
    · simp only [if_neg h5]
      by_cases h2 : x.kind = 2 ∨ x.kind = 5
      · simp only [if_pos h2]
      · simp only [if_neg h2]
end Go.Proofs.YtdlnkfghgbddhaaGreat
