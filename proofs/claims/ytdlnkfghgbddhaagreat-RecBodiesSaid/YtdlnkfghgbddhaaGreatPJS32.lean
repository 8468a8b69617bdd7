/- What the functions of the records' layer come to: 32: a change is read, by the document: it is what is read in plain words. -/
import Derived.Test.YtdlnkfghgbddhaaGreatPJS31
set_option linter.all false

open Go Go.Ve Go.Proofs
namespace Go.Proofs.YtdlnkfghgbddhaaGreat
set_option maxRecDepth 100000
set_option linter.all false

theorem rdCh_eq (r : Rd) : rdCh r = (⟨(rdN 1048576 r).1, fing (rdN 1048576 r).2 (rdW (rdN 1048576 r).2).2, (rdK (rdN 1048576 r).1 (rdW (rdW (rdN 1048576 r).2).2).2).1.1, (rdK (rdN 1048576 r).1 (rdW (rdW (rdN 1048576 r).2).2).2).1.2.1.1, (rdK (rdN 1048576 r).1 (rdW (rdW (rdN 1048576 r).2).2).2).1.2.1.2, (rdK (rdN 1048576 r).1 (rdW (rdW (rdN 1048576 r).2).2).2).1.2.2⟩, (rdK (rdN 1048576 r).1 (rdW (rdW (rdN 1048576 r).2).2).2).2) := rfl
theorem rest_den {J : Jn (AEnd × H)} {k : Nat} (hJ : warrantorref27_change.F D k J) {id q z : Nat} {r : Rd} {x : Change} {h : H} (s : DS id q z r x h) (hs : x.entry.state = 0) (hc : x.entry.count = 0) (hn : x.entry.note = []) (ha : x.entry.alarm = .none) : ∃ h', warrantorref27_change.j1 J (.ptr id 0) (.ptr z 0) (.ptr q 0) (.bool (decide (x.kind = 1 ∨ x.kind = 5))) h = some (.ret (.agg (⟨x.kind, x.entry.finger, (rdK x.kind r).1.1, (rdK x.kind r).1.2.1.1, (rdK x.kind r).1.2.1.2, (rdK x.kind r).1.2.2⟩ : Change).c), h') ∧ Keep [id, q, z] h h' ∧ RdAt h' id (rdK x.kind r).2 := by
  by_cases h15 : x.kind = 1 ∨ x.kind = 5
  · rw [decide_eq_true h15]
    obtain ⟨h1, e1, k1, s1⟩ := dj1 hJ s
    obtain ⟨h2, y, r', e2, k2, w2, hy, hr⟩ := dj0 hJ s1
    refine ⟨h2, ?_, k1.trans k2, ?_⟩
    · rw [e1, e2, hy]
      congr 3
      unfold rdK
      simp only [if_pos h15, hs, hc, hn]
    · rw [hr] at w2
      unfold rdK
      simp only [if_pos h15]
      simp only [hs, hc, hn] at w2
      exact w2
  · rw [decide_eq_false h15]
    obtain ⟨h2, y, r', e2, k2, w2, hy, hr⟩ := dj0 hJ s
    refine ⟨h2, ?_, k2, ?_⟩
    · rw [warrantorref27_change.j1_eq hJ, condV_false, e2, hy]
      congr 3
      unfold rdK
      simp only [if_neg h15, hs, hc, hn, ha]
    · rw [hr] at w2
      unfold rdK
      simp only [if_neg h15]
      simp only [hs, hc, hn] at w2
      exact w2
theorem change_den {h : H} {id : Nat} {r : Rd} (hr : RdAt h id r) (hk : r.ok) : ∃ h', D n_warrantorref27_change [.ptr id 0] h = some (.ret (.agg (rdCh r).1.c), h') ∧ Keep [id] h h' ∧ RdAt h' id (rdCh r).2 := by
  obtain ⟨Z, hZ⟩ : ∃ Z : Change, Z = ⟨0, 0, .none, 0, 0, []⟩ := ⟨_, rfl⟩
  have zc : Z.c = [.int .i64 0, .int .u64 0, .int .i64 0, .int .i64 0, .str [], .str [], .int .i64 0, .str [], .int .i64 0, .int .i64 0, .str []] := by rw [hZ]; rfl
  obtain ⟨h1, hh1⟩ : ∃ g : H, g = h ++ [AObj.arr Z.c false] := ⟨_, rfl⟩
  have k1 : Keep [] h h1 := hh1 ▸ .app
  have z1 : h1[h.length]? = some (.arr Z.c false) := hh1 ▸ get_new
  have l0 := hr.lt
  obtain ⟨h2, e2, k2, w2⟩ := dCount_den (m := 1048576) (k1.rd hr (by simp)) hk (by decide)
  rw [show (((1048576 : Nat) : Int)) = 1048576 from rfl] at e2
  have q2 := rdN_ok (m := 1048576) hk
  have z2 := k2.get z1 (by simp only [List.mem_singleton]; omega)
  have lz := get_lt z2
  have lw := w2.lt
  rw [rdCh_eq]
  generalize hn : rdN 1048576 r = n at *
  obtain ⟨x1, hx1⟩ : ∃ x1 : Change, x1 = ⟨n.1, 0, .none, 0, 0, []⟩ := ⟨_, rfl⟩
  obtain ⟨h3, hh3⟩ : ∃ g : H, g = h2 ++ [AObj.arr x1.c false] := ⟨_, rfl⟩
  have k3 : Keep [] h2 h3 := hh3 ▸ .app
  have st : stN 11 (h2 ++ [AObj.arr Z.c false]) (.ptr h2.length 0) (.agg x1.c) = some (.undef, h3) := by
    rw [st_agg (n := 11) get_new (by rw [Change.c_len, Change.c_len]; decide) (Change.c_len _) (Change.c_one _), set_new, hh3]
    simp [List.drop_of_length_le (show Z.c.length ≤ 11 by rw [Change.c_len]; decide)]
  have s3 : DS id h2.length h.length n.2 x1 h3 := ⟨hh3 ▸ get_new, ⟨Z, k3.get z2 (by simp)⟩, k3.rd w2 (by simp), q2.1, by omega, by omega, by omega⟩
  obtain ⟨h4, e4, k4, w4⟩ := dfinger_den s3.w s3.ok
  have s4 := s3.read k4 w4 (rdW_ok (rdW_ok s3.ok).1).1
  obtain ⟨x2, hx2⟩ : ∃ x2 : Change, x2 = { x1 with entry := { x1.entry with finger := fing n.2 (rdW n.2).2 } } := ⟨_, rfl⟩
  have t5 : stN 1 h4 (.ptr h2.length 1) (.int .u64 ((fing n.2 (rdW n.2).2).val : Int)) = some (.undef, h4.set h2.length (.arr x2.c false)) := by
    rw [st_int s4.c (by rw [Change.c_len]; decide)]
    rw [hx2]
    rfl
  have s5 := s4.put (y := x2)
  have kx : x2.kind = n.1 := by rw [hx2, hx1]
  obtain ⟨h6, e6, k6, w6⟩ := rest_den (warrantorref27_change.fx 1) s5 (by rw [hx2, hx1]) (by rw [hx2, hx1]) (by rw [hx2, hx1]) (by rw [hx2, hx1])
  have kk : Keep [h2.length, h.length, id] h h6 := k1.nil.trans ((k2.mono (by simp)).trans (k3.nil.trans ((k4.mono (by simp)).trans ((Keep.set (by simp)).trans (k6.mono (by simp))))))
  have fx : x2.entry.finger = fing n.2 (rdW n.2).2 := by rw [hx2]
  rw [kx, fx] at e6
  rw [kx] at w6
  refine ⟨h6, warrantorref27_change.den 1 ?_ rfl, (kk.drop (by have := k1.len; have := k2.len; omega)).drop (Nat.le_refl _), w6⟩
  rw [warrantorref27_change.f_eq (warrantorref27_change.fx 1)]
  simp only [← zc, ← hh1, canon_ptr, canon_int, e2, bind_some', retOr_ret, copy_int]
  rw [zc, show mkAgg [.int .i64 0, .int .u64 0, .int .i64 0, .int .i64 0, .str [], .str [], .int .i64 0, .str [], .int .i64 0, .int .i64 0, .str []] [(0, 1, .int .i64 (n.1 : Int))] = some (.agg x1.c) by rw [hx1]; rfl, ← zc]
  simp only [bind_some', st, e4, retOr_ret, fAddr_ptr, show 0 + 1 = 1 from rfl, show 1 + 0 = 1 from rfl, t5, ld_at s5.c, Change.c0, bin_eql, kx]
  by_cases h1 : (n.1 : Int) = 1
  · rw [decide_eq_true (show (n.1 : Int) = 1 ∨ (n.1 : Int) = 5 from .inl h1)] at e6
    simp only [decide_eq_true h1, condV_true]
    exact e6
  · simp only [decide_eq_false h1, condV_false]
    rw [show decide ((n.1 : Int) = 1 ∨ (n.1 : Int) = 5) = decide ((n.1 : Int) = 5) by simp [h1]] at e6
    exact e6
end Go.Proofs.YtdlnkfghgbddhaaGreat
