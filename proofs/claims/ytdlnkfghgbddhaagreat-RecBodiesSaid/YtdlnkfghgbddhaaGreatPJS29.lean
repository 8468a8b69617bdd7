/- What the functions of the records' layer come to: 29: a change is read, by the document. -/
import Derived.Test.YtdlnkfghgbddhaaGreatPJS28
set_option linter.all false

open Go Go.Ve Go.Proofs
namespace Go.Proofs.YtdlnkfghgbddhaaGreat
set_option maxRecDepth 100000
set_option linter.all false

theorem dfinger_den {h : H} {id : Nat} {r : Rd} (hr : RdAt h id r) (hk : r.ok) : ∃ h', D n_warrantorref27_finger [.ptr id 0] h = some (.ret (.int .u64 ((fing r (rdW r).2).val : Int)), h') ∧ Keep [id] h h' ∧ RdAt h' id (rdW (rdW r).2).2 := by
  obtain ⟨h1, e1, k1, w1⟩ := dWord_den hr hk
  obtain ⟨h2, e2, k2, w2⟩ := dWord_den w1 (rdW_ok hk).1
  have q1 := rdW_lt r
  have q2 := rdW_lt (rdW r).2
  refine ⟨h2, warrantorref27_finger.den 1 ?_ rfl, k1.trans k2, w2⟩
  rw [warrantorref27_finger.f_eq (warrantorref27_finger.fx 1)]
  simp only [canon_ptr, e1, e2, bind_some', retOr_ret, u64_u32 _ q1, u64_u32 _ q2, bin_mul, bin_add]
  rw [wrap_u64 (show (0 : Int) ≤ 4294967296 * ((rdW (rdW r).2).1 : Int) by omega) (by omega), wrap_u64 (by omega) (by omega)]
  rfl
/-- Where the document's reader, a change and the result stand. -/
structure DS (id q z : Nat) (r : Rd) (x : Change) (h : H) : Prop where
  c : h[q]? = some (.arr x.c false)
  o : ∃ y : Change, h[z]? = some (.arr y.c false)
  w : RdAt h id r
  ok : r.ok
  nq : q ≠ id
  nz : z ≠ id
  qz : q ≠ z
theorem DS.read {id q z : Nat} {r r' : Rd} {x : Change} {h h' : H} (s : DS id q z r x h) (k : Keep [id] h h') (w : RdAt h' id r') (ok : r'.ok) : DS id q z r' x h' :=
  ⟨k.get s.c (by simp; exact s.nq), s.o.imp fun _ ho => k.get ho (by simp; exact s.nz), w, ok, s.nq, s.nz, s.qz⟩
theorem DS.put {id q z : Nat} {r : Rd} {x y : Change} {h : H} (s : DS id q z r x h) : DS id q z r y (h.set q (.arr y.c false)) :=
  have k : Keep [q] h (h.set q (.arr y.c false)) := .set (by simp)
  ⟨get_set s.c, s.o.imp fun _ ho => k.get ho (by simp; exact fun e => s.qz e.symm), k.rd s.w (by simp; exact fun e => s.nq e.symm), s.ok, s.nq, s.nz, s.qz⟩
theorem DS.num {id q z : Nat} {r : Rd} {x : Change} {h : H} (s : DS id q z r x h) : ∃ h', D n_warrantorref02_Reader_Count [.ptr id 0, .int .i64 1048576] h = some (.ret (.int .i64 (rdN 1048576 r).1), h') ∧ Keep [id] h h' ∧ DS id q z (rdN 1048576 r).2 x h' := by
  obtain ⟨h', e, k, w⟩ := dCount_den (m := 1048576) s.w s.ok (by decide)
  exact ⟨h', e, k, s.read k w (rdN_ok s.ok).1⟩
theorem DS.text {id q z : Nat} {r : Rd} {x : Change} {h : H} (s : DS id q z r x h) : ∃ h', D n_warrantorref02_Reader_Text [.ptr id 0, .int .i64 1048576] h = some (.ret (.str (rdT 1048576 r).1), h') ∧ Keep [id] h h' ∧ DS id q z (rdT 1048576 r).2 x h' := by
  obtain ⟨h', e, k, w⟩ := dText_den (m := 1048576) s.w s.ok (by decide)
  exact ⟨h', e, k, s.read k w (rdT_ok s.ok).1⟩
theorem DS.setI {id q z : Nat} {r : Rd} {x : Change} {h : H} (s : DS id q z r x h) (y : Change) (off : Nat) (v : Int) (ho : off < 11) (hy : x.c.set off (.int .i64 v) = y.c) : stN 1 h (.ptr q off) (.int .i64 v) = some (.undef, h.set q (.arr y.c false)) := by
  rw [st_int s.c (by rw [Change.c_len]; exact ho), hy]
theorem DS.setS {id q z : Nat} {r : Rd} {x : Change} {h : H} (s : DS id q z r x h) (y : Change) (off : Nat) (v : List UInt8) (ho : off < 11) (hy : x.c.set off (.str v) = y.c) : stN 1 h (.ptr q off) (.str v) = some (.undef, h.set q (.arr y.c false)) := by
  rw [st_str s.c (by rw [Change.c_len]; exact ho), hy]
theorem keep3 {id q z j : Nat} {h : H} {o : AObj} (hj : j = q ∨ j = z) : Keep [id, q, z] h (h.set j o) := .set (by rcases hj with rfl | rfl <;> simp)
theorem keep1 {id q z : Nat} {h h' : H} (k : Keep [id] h h') : Keep [id, q, z] h h' := k.mono (by simp)
end Go.Proofs.YtdlnkfghgbddhaaGreat
