/- What the functions of the records' layer come to: what is written is read, what is read is written; in plain words. -/
import Derived.Test.YtdlnkfghgbddhaaGreatVa6
import Derived.Test.YtdlnkfghgbddhaaGreatPJS28
set_option linter.all false

open Go Go.Ve Go.Proofs
namespace Go.Proofs.YtdlnkfghgbddhaaGreat
set_option maxRecDepth 100000
set_option linter.all false

theorem rdT_tx {m : Nat} {s : List UInt8} {r : Rd} {t : List UInt8} (h : r.At (txB s ++ t)) (hm : s.length ≤ m) (hn : s.length < 2 ^ 64) : rdT m r = (s, r.go (txB s).length) := rdT_put h hm hn
theorem rdA_put {a : Alarm} {r : Rd} {t : List UInt8} (h : r.At (alB a ++ t)) (ok : a.ok = true) : rdA r = (a, r.go (alB a).length) := by
  have q := Alarm.ok_nums ok
  unfold alB at h
  simp only [List.append_assoc] at h
  have e1 := rdN_put (m := 1048576) h (by omega) (by omega)
  have h2 := h.next
  have e2 := rdN_put (m := 1048576) h2 (by omega) (by omega)
  have h3 := h2.next
  have e3 := rdT_tx (m := 1048576) h3 (by omega) (by omega)
  have h4 := h3.next
  have e4 := rdT_tx (m := 1048576) h4 (by omega) (by omega)
  have h5 := h4.next
  have e5 := rdN_put (m := 1048576) h5 (by omega) (by omega)
  have h6 := h5.next
  have e6 := rdT_tx (m := 1048576) h6 (by omega) (by omega)
  unfold rdA
  simp only [e1, e2, e3, e4, e5, e6, Int.toNat_of_nonneg (show 0 ≤ a.kind by omega), Int.toNat_of_nonneg (show 0 ≤ a.sev by omega), Int.toNat_of_nonneg (show 0 ≤ a.line by omega)]
  simp only [Rd.go_go, alB, List.length_append, Nat.add_assoc]
theorem rdS_put {e : Entry} {r : Rd} {t : List UInt8} (h : r.At (stB e ++ t)) (h1 : 1 ≤ e.state ∧ e.state ≤ 3) (h2 : 1 ≤ e.count ∧ e.count ≤ 1048576) : rdS r = ((e.state, e.count), r.go (stB e).length) := by
  unfold stB at h
  simp only [List.append_assoc] at h
  have e1 := rdN_put (m := 1048576) h (by omega) (by omega)
  have h3 := h.next
  have e2 := rdN_put (m := 1048576) h3 (by omega) (by omega)
  unfold rdS
  simp only [e1, e2, Int.toNat_of_nonneg (show 0 ≤ e.state by omega), Int.toNat_of_nonneg (show 0 ≤ e.count by omega)]
  simp only [Rd.go_go, stB, List.length_append]
theorem rdK_put {x : Change} {r : Rd} {t : List UInt8} (h : r.At (tailB x.kind x.entry ++ t)) (ok : x.ok = true) : rdK x.kind r = ((x.entry.alarm, (x.entry.state, x.entry.count), x.entry.note), r.go (tailB x.kind x.entry).length) := by
  unfold tailB at h ⊢
  unfold rdK
  rcases ok_cases ok with ⟨hk, ha, h1, h2, h3⟩ | ⟨hk, hn, h1, h2, h3⟩ | ⟨hk, h1, h2, h3, h4⟩ | ⟨hk, ho⟩
  · simp only [hk, Int.reduceEq, or_false, false_or, or_true, true_or, if_true, if_false, List.nil_append, List.append_nil] at h ⊢
    simp only [rdA_put h ha, h1, h2, h3]
  · have := noteS_len hn
    simp only [hk, Int.reduceEq, or_false, false_or, or_true, true_or, if_true, if_false, List.nil_append, List.append_nil] at h ⊢
    simp only [rdT_tx (m := 1048576) h (by omega) (by omega), h1, h2, h3]
  · have n1 : ¬ (x.kind = 1 ∨ x.kind = 5) := by omega
    have n2 : ¬ (x.kind = 2 ∨ x.kind = 5) := by omega
    have n3 : ¬ (x.kind = 5) := by omega
    simp only [if_neg n1, if_neg n2, if_neg n3, List.append_nil, List.length_nil, Rd.go_zero, h1, h2, h3, h4]
  · have q := Entry.ok_nums ho
    have := noteS_len q.2.2.2.2.2
    simp only [hk, Int.reduceEq, or_false, false_or, or_true, true_or, if_true, if_false, List.append_assoc] at h ⊢
    have h2 := h.next
    have h3 := h2.next
    simp only [rdA_put h q.1, rdS_put h2 ⟨q.2.1, q.2.2.1⟩ ⟨q.2.2.2.1, q.2.2.2.2.1⟩, rdT_tx (m := 1048576) h3 (by omega) (by omega)]
    simp only [Rd.go_go, List.length_append, Nat.add_assoc]
theorem fing_of {a b : Rd} {f : Fin 18446744073709551616} (h1 : (rdW a).1 = f.val % 4294967296) (h2 : (rdW b).1 = f.val / 4294967296) : fing a b = f := by
  apply Fin.ext
  show (rdW a).1 + 4294967296 * (rdW b).1 = f.val
  rw [h1, h2]
  omega
theorem rdCh_put {x : Change} {r : Rd} {t : List UInt8} (h : r.At (chB x ++ t)) (ok : x.ok = true) : rdCh r = (x, r.go (chB x).length) := by
  have q := ok_kind ok
  have lf := x.entry.finger.isLt
  unfold chB fiB at h
  simp only [List.append_assoc] at h
  have e1 := rdN_put (m := 1048576) h (by omega) (by omega)
  have h2 := h.next
  have e2 := rdW_put h2 (by omega)
  have h3 := h2.next
  have e3 := rdW_put h3 (by omega)
  have h4 := h3.next
  have e4 := rdK_put h4 ok
  unfold rdCh
  simp only [e1, e2, e3, Int.toNat_of_nonneg (show 0 ≤ x.kind by omega), e4]
  rw [fing_of (f := x.entry.finger) (by rw [e2]) (by rw [e3])]
  simp only [Rd.go_go, chB, fiB, List.length_append, Nat.add_assoc]
theorem rdL_put : ∀ (l : List Change) {r : Rd} {t : List UInt8}, r.At (l.flatMap chB ++ t) → l.all Change.ok = true → rdL l.length r = (l, r.go (l.flatMap chB).length)
  | [], r, t, h, ok => rfl
  | x :: l, r, t, h, ok => by
    simp only [List.all_cons, Bool.and_eq_true] at ok
    rw [List.flatMap_cons, List.append_assoc] at h
    have e1 := rdCh_put h ok.1
    have e2 := rdL_put l h.next ok.2
    rw [List.length_cons, rdL, if_neg (by have := h.e; omega)]
    simp only [e1, e2]
    simp only [Rd.go_go, List.flatMap_cons, List.length_append]
theorem changesOf_put {l : List Change} (hb : batch l = true) : changesOf (bodyB l) = some l := by
  have hb' := hb
  unfold batch at hb'
  simp only [Bool.and_eq_true, decide_eq_true_eq] at hb'
  have h : (⟨bodyB l, 0, 0⟩ : Rd).At (lebB l.length ++ (l.flatMap chB ++ [])) := ⟨rfl, by rw [List.append_nil]; rfl, Nat.zero_le _⟩
  have e1 := rdN_put (m := 512) h (by omega) (by omega)
  have h2 := h.next
  have e2 := rdL_put l h2 hb'.1
  have e3 := rdE_put h2.next
  unfold changesOf
  simp only [e1, e2, e3]
  rw [if_pos]
  exact ⟨h2.next.e, hb, trivial⟩
theorem changesOf_inv {b : List UInt8} {l : List Change} (h : changesOf b = some l) : batch l = true ∧ bodyB l = b := by
  unfold changesOf at h
  simp only [] at h
  split at h
  · rename_i hc
    simp only [Option.some.injEq] at h
    rw [← h]
    exact ⟨hc.2.1, hc.2.2⟩
  · exact absurd h (by simp)
theorem getOf_frame {b : List UInt8} (hb : b.length ≤ 1048576) (t : List UInt8) : getOf (frame b ++ t) = (match changesOf b with | some l => (l, (frame b).length, 0) | none => ([], 0, 270)) := by
  have h : (⟨frame b ++ t, 0, 0⟩ : Rd).At (txB b ++ (wdB (crcB (txB b)).toNat ++ t)) := ⟨rfl, by rw [← List.append_assoc]; rfl, Nat.zero_le _⟩
  have e1 := rdT_tx (m := 1048576) h hb (by omega)
  have h2 := h.next
  have e2 := rdW_put h2 (BitVec.isLt _)
  have h3 := h2.next
  have e4 : (frame b ++ t).take (txB b).length = txB b := by
    unfold frame
    rw [List.append_assoc, List.take_left]
  have hp1 : ((⟨frame b ++ t, 0, 0⟩ : Rd).go (txB b).length).p = (txB b).length := Nat.zero_add _
  have hp2 : (((⟨frame b ++ t, 0, 0⟩ : Rd).go (txB b).length).go (wdB (crcB (txB b)).toNat).length).p = (frame b).length := by
    unfold frame
    rw [List.length_append]
    show 0 + _ + _ = _
    rw [Nat.zero_add]
  unfold getOf
  simp only [e1, e2, hp1, hp2, e4, BitVec.ofNat_toNat, BitVec.setWidth_eq]
  rw [if_neg (by rw [h3.e]; simp), if_neg (by simp)]
  cases changesOf b <;> rfl
theorem getOf_put {l : List Change} (hb : batch l = true) (t : List UInt8) : getOf (frame (bodyB l) ++ t) = (l, (frame (bodyB l)).length, 0) := by
  rw [getOf_frame (Nat.le_trans (bodyB_len hb) (by decide)), changesOf_put hb]
theorem getOf_inv {b : List UInt8} (h : (getOf b).2.2 = 0) : batch (getOf b).1 = true ∧ (getOf b).2.1 ≤ b.length ∧ frame (bodyB (getOf b).1) = b.take (getOf b).2.1 := by
  unfold getOf at h ⊢
  simp only [] at h ⊢
  have qt := rdT_inv (m := 1048576) (r := ⟨b, 0, 0⟩)
  have qw := rdW_inv (r := (rdT 1048576 ⟨b, 0, 0⟩).2)
  have lw := rdW_lt (rdT 1048576 ⟨b, 0, 0⟩).2
  generalize rdT 1048576 ⟨b, 0, 0⟩ = t at *
  generalize rdW t.2 = w at *
  by_cases h1 : w.2.e = 0
  · rw [if_neg (by omega)] at h ⊢
    by_cases h2 : crcB (b.take t.2.p) = BitVec.ofNat 32 w.1
    · rw [if_neg (fun n => n h2)] at h ⊢
      cases hc : changesOf t.1 with
      | none => rw [hc] at h; exact absurd h (by simp)
      | some l =>
        simp only []
        obtain ⟨i1, i2⟩ := changesOf_inv hc
        obtain ⟨w1, w2, w3, w4, w5⟩ := qw h1
        obtain ⟨t1, t2, t3, t4, t5⟩ := qt w1 (Nat.zero_le _)
        simp only [Nat.zero_add, List.drop_zero] at t4 t5
        simp only [t3] at *
        refine ⟨i1, by omega, ?_⟩
        have e1 : b.take t.2.p = txB t.1 := by
          rw [t5, t4]
          exact List.take_left
        have e2 : (crcB (txB t.1)).toNat = w.1 := by
          rw [← e1, h2, BitVec.toNat_ofNat, Nat.mod_eq_of_lt lw]
        rw [i2, frame, e2, w2]
        have e3 : b = (txB t.1 ++ wdB w.1) ++ b.drop (t.2.p + 4) := by
          rw [List.append_assoc, ← w5]
          exact t5
        have e4 : t.2.p + 4 = (txB t.1 ++ wdB w.1).length := by
          rw [List.length_append, t4]; rfl
        conv => rhs; rw [e3, e4]
        rw [List.take_left]
    · rw [if_pos h2] at h
      exact absurd h (by simp)
  · rw [if_pos h1] at h
    exact absurd h h1
end Go.Proofs.YtdlnkfghgbddhaaGreat
