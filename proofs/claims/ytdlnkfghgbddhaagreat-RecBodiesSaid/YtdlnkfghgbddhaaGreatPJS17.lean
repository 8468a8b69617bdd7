/- What the functions of the records' layer come to: 17: changes as bytes, by the program. -/
import Derived.Test.YtdlnkfghgbddhaaGreatPJS16
set_option linter.all false

open Go Go.Ve Go.Proofs
namespace Go.Proofs.YtdlnkfghgbddhaaGreat
set_option maxRecDepth 100000
set_option linter.all false

/-- An alarm's bytes, a change's, a body's. -/
def alB (a : Alarm) : List UInt8 := lebB a.kind.toNat ++ (lebB a.sev.toNat ++ (txB a.func ++ (txB a.file ++ (lebB a.line.toNat ++ txB a.expr))))
def stB (e : Entry) : List UInt8 := lebB e.state.toNat ++ lebB e.count.toNat
def fiB (n : Nat) : List UInt8 := wdB (n % 4294967296) ++ wdB (n / 4294967296)
def tailB (k : Int) (e : Entry) : List UInt8 := (if k = 1 ∨ k = 5 then alB e.alarm else []) ++ ((if k = 5 then stB e else []) ++ (if k = 2 ∨ k = 5 then txB e.note else []))
def chB (x : Change) : List UInt8 := lebB x.kind.toNat ++ (fiB x.entry.finger.val ++ tailB x.kind x.entry)
def bodyB (l : List Change) : List UInt8 := lebB l.length ++ l.flatMap chB
theorem cvU {z : Int} (h1 : 0 ≤ z) (h2 : z ≤ 2 ^ 62) : cvInt .u64 (.int .i64 z) = some (.int .u64 ((z.toNat : Nat) : Int)) := by
  rw [cvInt_int, wrap_u64 h1 (by omega), Int.toNat_of_nonneg h1]
theorem wdB_len (n : Nat) : (wdB n).length = 4 := rfl
theorem fiB_len (n : Nat) : (fiB n).length = 8 := rfl
theorem txB_len {s : List UInt8} (h : s.length ≤ 2 ^ 40) : (txB s).length ≤ s.length + 10 := by
  have := lebB_10 (n := s.length) (by omega)
  simp [txB]; omega
theorem Alarm.ok_nums {a : Alarm} (h : a.ok = true) : 1 ≤ a.kind ∧ a.kind ≤ 3 ∧ 1 ≤ a.sev ∧ a.sev ≤ 2 ∧ 1 ≤ a.line ∧ a.line ≤ 1048576 ∧ a.func.length ≤ 32 ∧ a.file.length ≤ 64 ∧ a.expr.length ≤ 128 := by
  unfold Alarm.ok namS exprS at h
  simp only [Bool.and_eq_true, decide_eq_true_eq] at h
  omega
theorem alB_len {a : Alarm} (h : a.ok = true) : (alB a).length ≤ 300 := by
  have q := Alarm.ok_nums h
  have t1 := txB_len (s := a.func) (by omega)
  have t2 := txB_len (s := a.file) (by omega)
  have t3 := txB_len (s := a.expr) (by omega)
  have l1 := lebB_10 (n := a.kind.toNat) (by omega)
  have l2 := lebB_10 (n := a.sev.toNat) (by omega)
  have l3 := lebB_10 (n := a.line.toNat) (by omega)
  simp [alB]; omega

/-- Where a pen and an entry stand. -/
structure PS (id pi pe : Nat) (cs : List AV) (b : List UInt8) (h : H) : Prop where
  p : h[pi]? = some (.arr [.ptr id 0] false)
  e : h[pe]? = some (.arr cs false)
  w : PenAt h id b
  np : pi ≠ id
  ne : pe ≠ id
theorem PS.keep {id pi pe : Nat} {cs : List AV} {b b' : List UInt8} {h h' : H} (s : PS id pi pe cs b h) (k : Keep [id] h h') (w : PenAt h' id b') : PS id pi pe cs b' h' :=
  ⟨k.get s.p (by simp; exact s.np), k.get s.e (by simp; exact s.ne), w, s.np, s.ne⟩
theorem PS.num {id pi pe : Nat} {cs : List AV} {b : List UInt8} {h : H} (s : PS id pi pe cs b h) (n : Nat) (hn : n < 2 ^ 64) (hl : b.length ≤ 2 ^ 39) : ∃ h', D n_cur_Pen_U [.ptr id 0, .int .u64 n] h = some (.ret (.tuple []), h') ∧ Keep [id] h h' ∧ PS id pi pe cs (b ++ lebB n) h' := by
  obtain ⟨h', e, k, w⟩ := penU_den h id n b s.w hn (by omega)
  exact ⟨h', e, k, s.keep k w⟩
theorem PS.word {id pi pe : Nat} {cs : List AV} {b : List UInt8} {h : H} (s : PS id pi pe cs b h) (n : Nat) (hl : b.length ≤ 2 ^ 39) : ∃ h', D n_cur_Pen_Word [.ptr id 0, .int .u32 n] h = some (.ret (.tuple []), h') ∧ Keep [id] h h' ∧ PS id pi pe cs (b ++ wdB n) h' := by
  obtain ⟨h', e, k, w⟩ := penWord_den h id n b s.w (by omega)
  exact ⟨h', e, k, s.keep k w⟩
theorem PS.text {id pi pe : Nat} {cs : List AV} {b : List UInt8} {h : H} (s : PS id pi pe cs b h) (t : List UInt8) (ht : t.length ≤ 1000) (hl : b.length ≤ 2 ^ 39) : ∃ h', D n_cur_Pen_Text [.ptr id 0, .str t] h = some (.ret (.tuple []), h') ∧ Keep [id] h h' ∧ PS id pi pe cs (b ++ txB t) h' := by
  obtain ⟨h', e, k, w⟩ := penText_den h id b t s.w (by omega)
  exact ⟨h', e, k, s.keep k w⟩
/-- A pen's function with an entry: its cells are laid behind the heap. -/
theorem PS.start {id : Nat} {cs : List AV} {b : List UInt8} {h : H} (w : PenAt h id b) : PS id h.length (h.length + 1) cs b ((h ++ [.arr [.ptr id 0] false]) ++ [.arr cs false]) ∧ Keep [] h ((h ++ [.arr [.ptr id 0] false]) ++ [.arr cs false]) := by
  have k : Keep [] h ((h ++ [.arr [.ptr id 0] false]) ++ [.arr cs false]) := Keep.app.trans .app
  have := w.lt
  refine ⟨⟨get_app get_new, ?_, Keep.pen k w (by simp), by omega, by omega⟩, k⟩
  have := get_new (h := h ++ [AObj.arr [.ptr id 0] false]) (x := .arr cs false)
  simpa using this
theorem Entry.p1 (e : Entry) : e.c[0 + 1 + 0]? = some (.int .i64 e.alarm.kind) := rfl
theorem Entry.p2 (e : Entry) : e.c[0 + 1 + 1]? = some (.int .i64 e.alarm.sev) := rfl
theorem Entry.p3 (e : Entry) : e.c[0 + 1 + 2]? = some (.str e.alarm.func) := rfl
theorem Entry.p4 (e : Entry) : e.c[0 + 1 + 3]? = some (.str e.alarm.file) := rfl
theorem Entry.p5 (e : Entry) : e.c[0 + 1 + 4]? = some (.int .i64 e.alarm.line) := rfl
theorem Entry.p6 (e : Entry) : e.c[0 + 1 + 5]? = some (.str e.alarm.expr) := rfl
theorem ptr0 (id : Nat) : ([AV.ptr id 0])[0 + 0]? = some (.ptr id 0) := rfl
theorem penAlarm_den {id : Nat} {b : List UInt8} {h : H} (e : Entry) (ha : e.alarm.ok = true) (w : PenAt h id b) (hl : b.length ≤ 2 ^ 38) : ∃ h', D n_rec_pen_alarm [.agg [.ptr id 0], .agg e.c] h = some (.ret (.tuple []), h') ∧ Keep [id] h h' ∧ PenAt h' id (b ++ alB e.alarm) := by
  obtain ⟨s0, k0⟩ := PS.start (cs := e.c) w
  obtain ⟨G, hG⟩ : ∃ G, G = ((h ++ [AObj.arr [.ptr id 0] false]) ++ [AObj.arr e.c false] : H) := ⟨_, rfl⟩
  rw [← hG] at s0 k0
  have q := Alarm.ok_nums ha
  have l1 := lebB_10 (n := e.alarm.kind.toNat) (by omega)
  have l2 := lebB_10 (n := e.alarm.sev.toNat) (by omega)
  have l3 := lebB_10 (n := e.alarm.line.toNat) (by omega)
  have t1 := txB_len (s := e.alarm.func) (by omega)
  have t2 := txB_len (s := e.alarm.file) (by omega)
  obtain ⟨h1, e1, k1, s1⟩ := s0.num e.alarm.kind.toNat (by omega) (by omega)
  obtain ⟨h2, e2, k2, s2⟩ := s1.num e.alarm.sev.toNat (by omega) (by simp; omega)
  obtain ⟨h3, e3, k3, s3⟩ := s2.text e.alarm.func (by omega) (by simp; omega)
  obtain ⟨h4, e4, k4, s4⟩ := s3.text e.alarm.file (by omega) (by simp; omega)
  obtain ⟨h5, e5, k5, s5⟩ := s4.num e.alarm.line.toNat (by omega) (by simp; omega)
  obtain ⟨h6, e6, k6, s6⟩ := s5.text e.alarm.expr (by omega) (by simp; omega)
  refine ⟨h6, rec_pen_alarm.den 1 ?_ rfl, k0.nil.trans (k1.trans (k2.trans (k3.trans (k4.trans (k5.trans k6))))), by simpa [alB, List.append_assoc] using s6.w⟩
  rw [rec_pen_alarm.f_eq (rec_pen_alarm.fx 1)]
  rw [show AV.copy (.agg [.ptr id 0]) = .agg [.ptr id 0] from rfl, bx_agg (cs := [.ptr id 0]) rfl]
  simp only [bind_some', copy_agg, Entry.c_copy]
  rw [bx_agg e.c_one]
  simp only [bind_some', ← hG, List.length_append, List.length_singleton, fAddr_ptr, ld_at s0.p, ld_at s0.e, ptr0, e.p1, cvU (show 0 ≤ e.alarm.kind by omega) (by omega), canon_ptr, canon_int, canon_str, e1, retOr_ret, ld_at s1.p, ld_at s1.e, e.p2, cvU (show 0 ≤ e.alarm.sev by omega) (by omega), e2, ld_at s2.p, ld_at s2.e, e.p3, e3, ld_at s3.p, ld_at s3.e, e.p4, e4, ld_at s4.p, ld_at s4.e, e.p5, cvU (show 0 ≤ e.alarm.line by omega) (by omega), e5, ld_at s5.p, ld_at s5.e, e.p6, e6]
theorem penStand_den {id : Nat} {b : List UInt8} {h : H} (e : Entry) (h1 : 1 ≤ e.state ∧ e.state ≤ 3) (h2 : 1 ≤ e.count ∧ e.count ≤ 1048576) (w : PenAt h id b) (hl : b.length ≤ 2 ^ 38) : ∃ h', D n_rec_pen_stand [.agg [.ptr id 0], .agg e.c] h = some (.ret (.tuple []), h') ∧ Keep [id] h h' ∧ PenAt h' id (b ++ stB e) := by
  obtain ⟨s0, k0⟩ := PS.start (cs := e.c) w
  obtain ⟨G, hG⟩ : ∃ G, G = ((h ++ [AObj.arr [.ptr id 0] false]) ++ [AObj.arr e.c false] : H) := ⟨_, rfl⟩
  rw [← hG] at s0 k0
  have l1 := lebB_10 (n := e.state.toNat) (by omega)
  obtain ⟨h1, e1, k1, s1⟩ := s0.num e.state.toNat (by omega) (by omega)
  obtain ⟨h2, e2, k2, s2⟩ := s1.num e.count.toNat (by omega) (by simp; omega)
  refine ⟨h2, rec_pen_stand.den 1 ?_ rfl, k0.nil.trans (k1.trans k2), by simpa [stB, List.append_assoc] using s2.w⟩
  rw [rec_pen_stand.f_eq (rec_pen_stand.fx 1)]
  rw [show AV.copy (.agg [.ptr id 0]) = .agg [.ptr id 0] from rfl, bx_agg (cs := [.ptr id 0]) rfl]
  simp only [bind_some', copy_agg, Entry.c_copy]
  rw [bx_agg e.c_one]
  simp only [bind_some', ← hG, List.length_append, List.length_singleton, fAddr_ptr, ld_at s0.p, ld_at s0.e, ptr0, e.c7, e.c8, cvU (show 0 ≤ e.state by omega) (by omega), canon_ptr, canon_int, e1, retOr_ret, ld_at s1.p, ld_at s1.e, cvU (show 0 ≤ e.count by omega) (by omega), e2]
theorem penNote_den {id : Nat} {b : List UInt8} {h : H} (e : Entry) (hn : e.note.length ≤ 64) (w : PenAt h id b) (hl : b.length ≤ 2 ^ 38) : ∃ h', D n_rec_pen_note [.agg [.ptr id 0], .agg e.c] h = some (.ret (.tuple []), h') ∧ Keep [id] h h' ∧ PenAt h' id (b ++ txB e.note) := by
  obtain ⟨s0, k0⟩ := PS.start (cs := e.c) w
  obtain ⟨G, hG⟩ : ∃ G, G = ((h ++ [AObj.arr [.ptr id 0] false]) ++ [AObj.arr e.c false] : H) := ⟨_, rfl⟩
  rw [← hG] at s0 k0
  obtain ⟨h1, e1, k1, s1⟩ := s0.text e.note (by omega) (by omega)
  refine ⟨h1, rec_pen_note.den 1 ?_ rfl, k0.nil.trans k1, s1.w⟩
  rw [rec_pen_note.f_eq (rec_pen_note.fx 1)]
  rw [show AV.copy (.agg [.ptr id 0]) = .agg [.ptr id 0] from rfl, bx_agg (cs := [.ptr id 0]) rfl]
  simp only [bind_some', copy_agg, Entry.c_copy]
  rw [bx_agg e.c_one]
  simp only [bind_some', ← hG, List.length_append, List.length_singleton, fAddr_ptr, ld_at s0.p, ld_at s0.e, ptr0, e.c9, canon_ptr, canon_str, e1, retOr_ret]
end Go.Proofs.YtdlnkfghgbddhaaGreat
