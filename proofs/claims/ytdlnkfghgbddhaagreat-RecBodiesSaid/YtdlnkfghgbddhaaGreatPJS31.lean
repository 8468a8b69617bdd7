/- What the functions of the records' layer come to: 31: a change is read, by the document: its alarm. -/
import Derived.Test.YtdlnkfghgbddhaaGreatPJS30
set_option linter.all false

open Go Go.Ve Go.Proofs
namespace Go.Proofs.YtdlnkfghgbddhaaGreat
set_option maxRecDepth 100000
set_option linter.all false

/-- The alarm that is read stands at `t`. -/
structure ES (id q z t : Nat) (r : Rd) (x : Change) (a : Alarm) (h : H) : Prop where
  d : DS id q z r x h
  a : h[t]? = some (.arr a.c false)
  ti : t ≠ id
  tq : t ≠ q
  tz : t ≠ z
theorem ES.num {id q z t : Nat} {r : Rd} {x : Change} {a : Alarm} {h : H} (s : ES id q z t r x a h) : ∃ h', D n_warrantorref02_Reader_Count [.ptr id 0, .int .i64 1048576] h = some (.ret (.int .i64 (rdN 1048576 r).1), h') ∧ Keep [id] h h' ∧ ES id q z t (rdN 1048576 r).2 x a h' := by
  obtain ⟨h', e, k, w⟩ := s.d.num
  exact ⟨h', e, k, w, k.get s.a (by simp; exact s.ti), s.ti, s.tq, s.tz⟩
theorem ES.text {id q z t : Nat} {r : Rd} {x : Change} {a : Alarm} {h : H} (s : ES id q z t r x a h) : ∃ h', D n_warrantorref02_Reader_Text [.ptr id 0, .int .i64 1048576] h = some (.ret (.str (rdT 1048576 r).1), h') ∧ Keep [id] h h' ∧ ES id q z t (rdT 1048576 r).2 x a h' := by
  obtain ⟨h', e, k, w⟩ := s.d.text
  exact ⟨h', e, k, w, k.get s.a (by simp; exact s.ti), s.ti, s.tq, s.tz⟩
theorem ES.put {id q z t : Nat} {r : Rd} {x : Change} {a b : Alarm} {h : H} (s : ES id q z t r x a h) : ES id q z t r x b (h.set t (.arr b.c false)) :=
  have k : Keep [t] h (h.set t (.arr b.c false)) := .set (by simp)
  ⟨⟨k.get s.d.c (by simp; exact fun e => s.tq e.symm), s.d.o.imp fun _ ho => k.get ho (by simp; exact fun e => s.tz e.symm), k.rd s.d.w (by simp; exact fun e => s.ti e.symm), s.d.ok, s.d.nq, s.d.nz, s.d.qz⟩, get_set s.a, s.ti, s.tq, s.tz⟩
theorem ES.setI {id q z t : Nat} {r : Rd} {x : Change} {a : Alarm} {h : H} (s : ES id q z t r x a h) (b : Alarm) (off : Nat) (v : Int) (ho : off < 6) (hy : a.c.set off (.int .i64 v) = b.c) : stN 1 h (.ptr t off) (.int .i64 v) = some (.undef, h.set t (.arr b.c false)) := by
  rw [st_int s.a (by rw [Alarm.c_len]; exact ho), hy]
theorem ES.setS {id q z t : Nat} {r : Rd} {x : Change} {a : Alarm} {h : H} (s : ES id q z t r x a h) (b : Alarm) (off : Nat) (v : List UInt8) (ho : off < 6) (hy : a.c.set off (.str v) = b.c) : stN 1 h (.ptr t off) (.str v) = some (.undef, h.set t (.arr b.c false)) := by
  rw [st_str s.a (by rw [Alarm.c_len]; exact ho), hy]
theorem keepT {id q z t : Nat} {h : H} {o : AObj} : Keep [t, id, q, z] h (h.set t o) := .set (by simp)
theorem keep1T {id q z t : Nat} {h h' : H} (k : Keep [id] h h') : Keep [t, id, q, z] h h' := k.mono (by simp)
theorem dj1 {J : Jn (AEnd × H)} {k : Nat} (hJ : warrantorref27_change.F D k J) {id q z : Nat} {r : Rd} {x : Change} {h : H} (s : DS id q z r x h) : ∃ h', warrantorref27_change.j1 J (.ptr id 0) (.ptr z 0) (.ptr q 0) (.bool true) h = warrantorref27_change.j0 J (.ptr id 0) (.ptr z 0) (.ptr q 0) h' ∧ Keep [id, q, z] h h' ∧ DS id q z (rdA r).2 { x with entry := { x.entry with alarm := (rdA r).1 } } h' := by
  obtain ⟨h1, e1, k1, d1⟩ := s.num
  obtain ⟨a1, ha1⟩ : ∃ a1 : Alarm, a1 = ⟨(rdN 1048576 r).1, 0, [], [], 0, []⟩ := ⟨_, rfl⟩
  obtain ⟨h2, hh2⟩ : ∃ g : H, g = h1 ++ [AObj.arr a1.c false] := ⟨_, rfl⟩
  have k2 : Keep [] h1 h2 := hh2 ▸ Keep.app
  have st : stN 6 (h1 ++ [AObj.arr [.int .i64 0, .int .i64 0, .str [], .str [], .int .i64 0, .str []] false]) (.ptr h1.length 0) (.agg a1.c) = some (.undef, h2) := by
    rw [st_agg (n := 6) get_new (by rw [Alarm.c_len]; decide) (Alarm.c_len _) (Alarm.c_one _), set_new, hh2]
    simp
  have l1 := d1.w.lt
  have l2 := get_lt d1.c
  obtain ⟨y, hy⟩ := d1.o
  have l3 := get_lt hy
  have s2 : ES id q z h1.length (rdN 1048576 r).2 x a1 h2 := ⟨⟨k2.get d1.c (by simp), ⟨y, k2.get hy (by simp)⟩, k2.rd d1.w (by simp), d1.ok, d1.nq, d1.nz, d1.qz⟩, hh2 ▸ get_new, by omega, by omega, by omega⟩
  generalize hr2 : (rdN 1048576 r).2 = r2 at *
  obtain ⟨h3, e3, k3, s3⟩ := s2.num
  obtain ⟨a2, ha2⟩ : ∃ a2 : Alarm, a2 = { a1 with sev := (rdN 1048576 r2).1 } := ⟨_, rfl⟩
  have t3 := s3.setI a2 1 (rdN 1048576 r2).1 (by decide) (by rw [ha2]; rfl)
  have p3 := s3.put (b := a2)
  generalize hr3 : (rdN 1048576 r2).2 = r3 at *
  obtain ⟨h4, e4, k4, s4⟩ := p3.text
  obtain ⟨a3, ha3⟩ : ∃ a3 : Alarm, a3 = { a2 with func := (rdT 1048576 r3).1 } := ⟨_, rfl⟩
  have t4 := s4.setS a3 2 (rdT 1048576 r3).1 (by decide) (by rw [ha3]; rfl)
  have p4 := s4.put (b := a3)
  generalize hr4 : (rdT 1048576 r3).2 = r4 at *
  obtain ⟨h5, e5, k5, s5⟩ := p4.text
  obtain ⟨a4, ha4⟩ : ∃ a4 : Alarm, a4 = { a3 with file := (rdT 1048576 r4).1 } := ⟨_, rfl⟩
  have t5 := s5.setS a4 3 (rdT 1048576 r4).1 (by decide) (by rw [ha4]; rfl)
  have p5 := s5.put (b := a4)
  generalize hr5 : (rdT 1048576 r4).2 = r5 at *
  obtain ⟨h6, e6, k6, s6⟩ := p5.num
  obtain ⟨a5, ha5⟩ : ∃ a5 : Alarm, a5 = { a4 with line := (rdN 1048576 r5).1 } := ⟨_, rfl⟩
  have t6 := s6.setI a5 4 (rdN 1048576 r5).1 (by decide) (by rw [ha5]; rfl)
  have p6 := s6.put (b := a5)
  generalize hr6 : (rdN 1048576 r5).2 = r6 at *
  obtain ⟨h7, e7, k7, s7⟩ := p6.text
  obtain ⟨a6, ha6⟩ : ∃ a6 : Alarm, a6 = { a5 with expr := (rdT 1048576 r6).1 } := ⟨_, rfl⟩
  have t7 := s7.setS a6 5 (rdT 1048576 r6).1 (by decide) (by rw [ha6]; rfl)
  have p7 := s7.put (b := a6)
  have ea : rdA r = (a6, (rdT 1048576 r6).2) := by
    unfold rdA
    rw [hr2, hr3, hr4, hr5, hr6, ha6, ha5, ha4, ha3, ha2, ha1]
  have p8 := p7.d.put (y := { x with entry := { x.entry with alarm := a6 } })
  have st8 : stN 6 (h7.set h1.length (.arr a6.c false)) (.ptr q 2) (.agg a6.c) = some (.undef, (h7.set h1.length (.arr a6.c false)).set q (.arr ({ x with entry := { x.entry with alarm := a6 } } : Change).c false)) := by
    rw [st_agg (n := 6) p7.d.c (by rw [Change.c_len, Alarm.c_len]; decide) a6.c_len a6.c_one]
    rfl
  have kk : Keep [h1.length, id, q, z] h (h7.set h1.length (.arr a6.c false)) := (keep1T k1).trans (k2.nil.trans ((keep1T k3).trans (keepT.trans ((keep1T k4).trans (keepT.trans ((keep1T k5).trans (keepT.trans ((keep1T k6).trans (keepT.trans ((keep1T k7).trans keepT))))))))))
  rw [ea]
  refine ⟨_, ?_, (kk.drop k1.len).trans (keep3 (.inl rfl)), p8⟩
  rw [warrantorref27_change.j1_eq hJ]
  simp only [condV_true, canon_ptr, canon_int, e1, bind_some', retOr_ret, copy_int]
  rw [show mkAgg [.int .i64 0, .int .i64 0, .str [], .str [], .int .i64 0, .str []] [(0, 1, .int .i64 ((rdN 1048576 r).1 : Int))] = some (.agg a1.c) by rw [ha1]; rfl]
  simp only [bind_some', st, e3, retOr_ret, fAddr_ptr, show 0 + 1 = 1 from rfl, show 0 + 2 = 2 from rfl, show 0 + 3 = 3 from rfl, show 0 + 4 = 4 from rfl, show 0 + 5 = 5 from rfl, show 1 + 1 = 2 from rfl, t3, e4, t4, e5, t5, e6, t6, e7, t7, ldA_at p7.a, Alarm.agg, copy_agg, Alarm.c_copy, st8]
end Go.Proofs.YtdlnkfghgbddhaaGreat
