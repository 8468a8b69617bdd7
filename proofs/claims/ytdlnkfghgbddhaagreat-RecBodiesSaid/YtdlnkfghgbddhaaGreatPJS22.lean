/- What the functions of the records' layer come to: 22: the program's takers of an entry. -/
import Derived.Test.YtdlnkfghgbddhaaGreatPJS21
set_option linter.all false

open Go Go.Ve Go.Proofs
namespace Go.Proofs.YtdlnkfghgbddhaaGreat
set_option maxRecDepth 100000
set_option linter.all false

/-- Where a reader and a change stand. -/
structure TS (id pi q : Nat) (r : Rd) (x : Change) (h : H) : Prop where
  p : h[pi]? = some (.arr [.ptr id 0] false)
  c : h[q]? = some (.arr x.c false)
  w : RdAt h id r
  ok : r.ok
  np : pi ≠ id
  nq : q ≠ id
  pq : pi ≠ q
theorem TS.read {id pi q : Nat} {r r' : Rd} {x : Change} {h h' : H} (s : TS id pi q r x h) (k : Keep [id] h h') (w : RdAt h' id r') (ok : r'.ok) : TS id pi q r' x h' :=
  ⟨k.get s.p (by simp; exact s.np), k.get s.c (by simp; exact s.nq), w, ok, s.np, s.nq, s.pq⟩
theorem TS.put {id pi q : Nat} {r : Rd} {x y : Change} {h : H} (s : TS id pi q r x h) : TS id pi q r y (h.set q (.arr y.c false)) :=
  have k : Keep [q] h (h.set q (.arr y.c false)) := .set (by simp)
  ⟨k.get s.p (by simp; exact s.pq), get_set s.c, k.rd s.w (by simp; exact fun e => s.nq e.symm), s.ok, s.np, s.nq, s.pq⟩
theorem ptr1 (id : Nat) : aggAt 1 [AV.ptr id 0] 0 = some (.agg [.ptr id 0]) := rfl
theorem canonP (id : Nat) : AV.canon (.agg [.ptr id 0]) = .agg [.ptr id 0] := rfl
theorem TS.start {id pi q : Nat} {r : Rd} {x : Change} {h : H} (s : TS id pi q r x h) : TS id h.length q r x (h ++ [.arr [.ptr id 0] false]) ∧ Keep [] h (h ++ [.arr [.ptr id 0] false]) := by
  have k : Keep [] h (h ++ [.arr [.ptr id 0] false]) := .app
  have l1 := s.w.lt
  have l2 := get_lt s.c
  exact ⟨⟨get_new, k.get s.c (by simp), k.rd s.w (by simp), s.ok, by omega, s.nq, by omega⟩, k⟩
theorem TS.num {id pi q : Nat} {r : Rd} {x : Change} {h : H} (s : TS id pi q r x h) : ∃ h', D n_rec_taker_num [.agg [.ptr id 0]] h = some (.ret (.int .i64 (rdN 1048576 r).1), h') ∧ Keep [id] h h' ∧ TS id pi q (rdN 1048576 r).2 x h' := by
  obtain ⟨h', e, k, w⟩ := takeNum_den s.w s.ok
  exact ⟨h', e, k, s.read k w (rdN_ok s.ok).1⟩
theorem TS.text {id pi q : Nat} {r : Rd} {x : Change} {h : H} (s : TS id pi q r x h) : ∃ h', D n_rec_taker_text [.agg [.ptr id 0]] h = some (.ret (.str (rdT 1048576 r).1), h') ∧ Keep [id] h h' ∧ TS id pi q (rdT 1048576 r).2 x h' := by
  obtain ⟨h', e, k, w⟩ := takeText_den s.w s.ok
  exact ⟨h', e, k, s.read k w (rdT_ok s.ok).1⟩
/-- A field is set. -/
theorem TS.setI {id pi q : Nat} {r : Rd} {x : Change} {h : H} (s : TS id pi q r x h) (y : Change) (off : Nat) (z : Int) (ho : off < 11) (hy : x.c.set off (.int .i64 z) = y.c) : stN 1 h (.ptr q off) (.int .i64 z) = some (.undef, h.set q (.arr y.c false)) := by
  rw [st_int s.c (by rw [Change.c_len]; exact ho), hy]
theorem TS.setS {id pi q : Nat} {r : Rd} {x : Change} {h : H} (s : TS id pi q r x h) (y : Change) (off : Nat) (z : List UInt8) (ho : off < 11) (hy : x.c.set off (.str z) = y.c) : stN 1 h (.ptr q off) (.str z) = some (.undef, h.set q (.arr y.c false)) := by
  rw [st_str s.c (by rw [Change.c_len]; exact ho), hy]
theorem keepQ {id q : Nat} {h : H} {o : AObj} : Keep [id, q] h (h.set q o) := .set (by simp)
theorem keepI {id q : Nat} {h h' : H} (k : Keep [id] h h') : Keep [id, q] h h' := k.mono (by simp)
theorem takeNote_den {id pi q : Nat} {r : Rd} {x : Change} {h : H} (s : TS id pi q r x h) : ∃ h', D n_rec_taker_note [.agg [.ptr id 0], .ptr q 1] h = some (.ret (.tuple []), h') ∧ Keep [id, q] h h' ∧ TS id pi q (rdT 1048576 r).2 { x with entry := { x.entry with note := (rdT 1048576 r).1 } } h' := by
  obtain ⟨s0, k0⟩ := s.start
  obtain ⟨G, hG⟩ : ∃ G, G = h ++ [AObj.arr [.ptr id 0] false] := ⟨_, rfl⟩
  rw [← hG] at s0 k0
  obtain ⟨h1, e1, k1, s1⟩ := s0.text
  have t1 := s1.setS { x with entry := { x.entry with note := (rdT 1048576 r).1 } } 10 (rdT 1048576 r).1 (by decide) rfl
  have kk := k0.nil.trans (keepI (q := q) k1)
  have s2 := s1.put (y := { x with entry := { x.entry with note := (rdT 1048576 r).1 } })
  refine ⟨_, rec_taker_note.den 1 ?_ rfl, kk.trans keepQ, ⟨?_, s2.c, s2.w, s2.ok, s.np, s.nq, s.pq⟩⟩
  · rw [rec_taker_note.f_eq (rec_taker_note.fx 1)]
    rw [show AV.copy (.agg [.ptr id 0]) = .agg [.ptr id 0] from rfl, bx_agg (cs := [.ptr id 0]) rfl]
    simp only [bind_some', ← hG, ldA_at s0.p, ptr1, canonP, e1, retOr_ret, nilOk_ptr, fAddr_ptr]
    rw [show 1 + 9 = 10 from rfl, t1]
    rfl
  · exact (kk.trans keepQ).get s.p (by simp only [List.mem_cons, List.not_mem_nil, or_false, not_or]; exact ⟨s.np, s.pq⟩)
theorem takeStand_den {id pi q : Nat} {r : Rd} {x : Change} {h : H} (s : TS id pi q r x h) : ∃ h', D n_rec_taker_stand [.agg [.ptr id 0], .ptr q 1] h = some (.ret (.tuple []), h') ∧ Keep [id, q] h h' ∧ TS id pi q (rdS r).2 { x with entry := { x.entry with state := (rdS r).1.1, count := (rdS r).1.2 } } h' := by
  obtain ⟨s0, k0⟩ := s.start
  obtain ⟨G, hG⟩ : ∃ G, G = h ++ [AObj.arr [.ptr id 0] false] := ⟨_, rfl⟩
  rw [← hG] at s0 k0
  obtain ⟨x1, hx1⟩ : ∃ x1 : Change, x1 = { x with entry := { x.entry with state := (rdN 1048576 r).1 } } := ⟨_, rfl⟩
  obtain ⟨x2, hx2⟩ : ∃ x2 : Change, x2 = { x1 with entry := { x1.entry with count := (rdN 1048576 (rdN 1048576 r).2).1 } } := ⟨_, rfl⟩
  obtain ⟨h1, e1, k1, s1⟩ := s0.num
  have t1 := s1.setI x1 8 (rdN 1048576 r).1 (by decide) (by rw [hx1]; rfl)
  have s2 := s1.put (y := x1)
  obtain ⟨h3, e3, k3, s3⟩ := s2.num
  have t3 := s3.setI x2 9 (rdN 1048576 (rdN 1048576 r).2).1 (by decide) (by rw [hx2]; rfl)
  have s4 := s3.put (y := x2)
  have kk : Keep [id, q] h (h3.set q (.arr x2.c false)) := k0.nil.trans ((keepI k1).trans (keepQ.trans ((keepI k3).trans keepQ)))
  have ex : x2 = { x with entry := { x.entry with state := (rdS r).1.1, count := (rdS r).1.2 } } := by rw [hx2, hx1]; rfl
  rw [← ex]
  refine ⟨_, rec_taker_stand.den 1 ?_ rfl, kk, ⟨kk.get s.p (by simp only [List.mem_cons, List.not_mem_nil, or_false, not_or]; exact ⟨s.np, s.pq⟩), s4.c, s4.w, s4.ok, s.np, s.nq, s.pq⟩⟩
  rw [rec_taker_stand.f_eq (rec_taker_stand.fx 1)]
  rw [show AV.copy (.agg [.ptr id 0]) = .agg [.ptr id 0] from rfl, bx_agg (cs := [.ptr id 0]) rfl]
  simp only [bind_some', ← hG, ldA_at s0.p, ptr1, canonP, e1, retOr_ret, nilOk_ptr, fAddr_ptr, show 1 + 7 = 8 from rfl, show 1 + 8 = 9 from rfl, t1, ldA_at s2.p, e3, t3]
theorem takeAlarm_den {id pi q : Nat} {r : Rd} {x : Change} {h : H} (s : TS id pi q r x h) : ∃ h', D n_rec_taker_alarm [.agg [.ptr id 0], .ptr q 1] h = some (.ret (.tuple []), h') ∧ Keep [id, q] h h' ∧ TS id pi q (rdA r).2 { x with entry := { x.entry with alarm := (rdA r).1 } } h' := by
  obtain ⟨s0, k0⟩ := s.start
  obtain ⟨G, hG⟩ : ∃ G, G = h ++ [AObj.arr [.ptr id 0] false] := ⟨_, rfl⟩
  rw [← hG] at s0 k0
  obtain ⟨h1, e1, k1, s1⟩ := s0.num
  obtain ⟨x1, hx1⟩ : ∃ x1 : Change, x1 = { x with entry := { x.entry with alarm := { x.entry.alarm with kind := (rdN 1048576 r).1 } } } := ⟨_, rfl⟩
  have t1 := s1.setI x1 2 (rdN 1048576 r).1 (by decide) (by rw [hx1]; rfl)
  have p1 := s1.put (y := x1)
  obtain ⟨h2, e2, k2, s2⟩ := p1.num
  generalize hr2 : (rdN 1048576 r).2 = r2 at *
  obtain ⟨x2, hx2⟩ : ∃ x2 : Change, x2 = { x1 with entry := { x1.entry with alarm := { x1.entry.alarm with sev := (rdN 1048576 r2).1 } } } := ⟨_, rfl⟩
  have t2 := s2.setI x2 3 (rdN 1048576 r2).1 (by decide) (by rw [hx2]; rfl)
  have p2 := s2.put (y := x2)
  obtain ⟨h3, e3, k3, s3⟩ := p2.text
  generalize hr3 : (rdN 1048576 r2).2 = r3 at *
  obtain ⟨x3, hx3⟩ : ∃ x3 : Change, x3 = { x2 with entry := { x2.entry with alarm := { x2.entry.alarm with func := (rdT 1048576 r3).1 } } } := ⟨_, rfl⟩
  have t3 := s3.setS x3 4 (rdT 1048576 r3).1 (by decide) (by rw [hx3]; rfl)
  have p3 := s3.put (y := x3)
  obtain ⟨h4, e4, k4, s4⟩ := p3.text
  generalize hr4 : (rdT 1048576 r3).2 = r4 at *
  obtain ⟨x4, hx4⟩ : ∃ x4 : Change, x4 = { x3 with entry := { x3.entry with alarm := { x3.entry.alarm with file := (rdT 1048576 r4).1 } } } := ⟨_, rfl⟩
  have t4 := s4.setS x4 5 (rdT 1048576 r4).1 (by decide) (by rw [hx4]; rfl)
  have p4 := s4.put (y := x4)
  obtain ⟨h5, e5, k5, s5⟩ := p4.num
  generalize hr5 : (rdT 1048576 r4).2 = r5 at *
  obtain ⟨x5, hx5⟩ : ∃ x5 : Change, x5 = { x4 with entry := { x4.entry with alarm := { x4.entry.alarm with line := (rdN 1048576 r5).1 } } } := ⟨_, rfl⟩
  have t5 := s5.setI x5 6 (rdN 1048576 r5).1 (by decide) (by rw [hx5]; rfl)
  have p5 := s5.put (y := x5)
  obtain ⟨h6, e6, k6, s6⟩ := p5.text
  generalize hr6 : (rdN 1048576 r5).2 = r6 at *
  obtain ⟨x6, hx6⟩ : ∃ x6 : Change, x6 = { x5 with entry := { x5.entry with alarm := { x5.entry.alarm with expr := (rdT 1048576 r6).1 } } } := ⟨_, rfl⟩
  have t6 := s6.setS x6 7 (rdT 1048576 r6).1 (by decide) (by rw [hx6]; rfl)
  have p6 := s6.put (y := x6)
  have kk : Keep [id, q] h (h6.set q (.arr x6.c false)) := k0.nil.trans ((keepI k1).trans (keepQ.trans ((keepI k2).trans (keepQ.trans ((keepI k3).trans (keepQ.trans ((keepI k4).trans (keepQ.trans ((keepI k5).trans (keepQ.trans ((keepI k6).trans keepQ)))))))))))
  have ea : rdA r = (⟨(rdN 1048576 r).1, (rdN 1048576 r2).1, (rdT 1048576 r3).1, (rdT 1048576 r4).1, (rdN 1048576 r5).1, (rdT 1048576 r6).1⟩, (rdT 1048576 r6).2) := by
    unfold rdA
    rw [hr2, hr3, hr4, hr5, hr6]
  have ex : x6 = { x with entry := { x.entry with alarm := (rdA r).1 } } := by rw [ea, hx6, hx5, hx4, hx3, hx2, hx1]
  rw [← ex, ea]
  refine ⟨_, rec_taker_alarm.den 1 ?_ rfl, kk, ⟨kk.get s.p (by simp only [List.mem_cons, List.not_mem_nil, or_false, not_or]; exact ⟨s.np, s.pq⟩), p6.c, p6.w, p6.ok, s.np, s.nq, s.pq⟩⟩
  rw [rec_taker_alarm.f_eq (rec_taker_alarm.fx 1)]
  rw [show AV.copy (.agg [.ptr id 0]) = .agg [.ptr id 0] from rfl, bx_agg (cs := [.ptr id 0]) rfl]
  simp only [bind_some', ← hG, ldA_at s0.p, ptr1, canonP, e1, retOr_ret, nilOk_ptr, fAddr_ptr, show 1 + 1 + 0 = 2 from rfl, show 1 + 1 + 1 = 3 from rfl, show 1 + 1 + 2 = 4 from rfl, show 1 + 1 + 3 = 5 from rfl, show 1 + 1 + 4 = 6 from rfl, show 1 + 1 + 5 = 7 from rfl, t1, ldA_at p1.p, e2, t2, ldA_at p2.p, e3, t3, ldA_at p3.p, e4, t4, ldA_at p4.p, e5, t5, ldA_at p5.p, e6, t6]
end Go.Proofs.YtdlnkfghgbddhaaGreat
