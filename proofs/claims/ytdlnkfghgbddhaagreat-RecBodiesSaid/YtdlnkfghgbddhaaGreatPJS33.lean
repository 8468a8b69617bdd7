/- What the functions of the records' layer come to: 33: a body is read, by the document. -/
import Derived.Test.YtdlnkfghgbddhaaGreatPJS32
set_option linter.all false

open Go Go.Ve Go.Proofs
namespace Go.Proofs.YtdlnkfghgbddhaaGreat
set_option maxRecDepth 100000
set_option linter.all false

/-- What the document tells of a body. -/
def dcRes (b : List UInt8) (l : List Change) (r : Rd) (o : Own) : AV := if (rdE r).e = 0 ∧ batch l = true ∧ bodyB l = b then .tuple [CL l o, .bool true] else .tuple [.list [] .cap, .bool false]
theorem dc_j1 {J : Jn (AEnd × H)} {k : Nat} (hJ : warrantorref27_Changes.F D k J) (x : AV) (b : Bool) (h : H) : warrantorref27_Changes.j1 J x (.bool b) h = some (.ret (if b then .tuple [.list [] .cap, .bool false] else .tuple [x, .bool true]), h) := by
  rw [warrantorref27_Changes.j1_eq hJ]
  cases b <;> rfl
theorem dchanges_end {J : Jn (AEnd × H)} {k : Nat} (hJ : warrantorref27_Changes.F D k J) {m id n : Nat} {b : List UInt8} {r : Rd} {l : List Change} {o : Own} {h : H} (w : RdAt h id r) (hn : n = 0 ∨ r.e ≠ 0) (hl : l.length ≤ 2 ^ 50) (hf : ∀ x ∈ l, x.entry.fit) :
    ∃ h', warrantorref27_Changes.l0 J (m + 1) (BL b) (.ptr id 0) (CL l o) (.int .i64 n) h = some (.ret (dcRes b l r o), h') := by
  obtain ⟨h1, e1, k1, w1⟩ := dEnd_den w
  obtain ⟨o0, c0⟩ := w
  obtain ⟨o1, c1⟩ := w1
  refine ⟨h1, ?_⟩
  rw [warrantorref27_Changes.l0_eq hJ]
  by_cases h0 : n = 0
  · subst h0
    simp only [bin_gtr, decide_eq_false (show ¬ (((0 : Nat) : Int) > 0) by decide), bind_some', condV_false, canon_ptr, e1, retOr_ret, nilOk_ptr, fAddr_ptr, ld_at c1, cell2, bin_neq, dc_j1 hJ]
    unfold dcRes
    by_cases he : (rdE r).e = 0
    · simp only [decide_eq_false (show ¬ (((rdE r).e : Int) ≠ 0) by omega), condV_false, canon_list, rbatch_den l hl hf, bind_some', retOr_ret, not_bool]
      cases hb : batch l with
      | false => simp
      | true =>
        simp only [Bool.not_true, condV_false, rbody_den l hb, bind_some', retOr_ret, BL_toStr, bin_str, strBin_neq, dc_j1 hJ]
        by_cases hx : bodyB l = b <;> simp [he, hx]
    · simp only [decide_eq_true (show (((rdE r).e : Int) ≠ 0) by omega), condV_true, if_neg (show ¬ ((rdE r).e = 0 ∧ batch l = true ∧ bodyB l = b) from fun h => he h.1), if_true]
  · have h1 : r.e ≠ 0 := by omega
    have e0 : (rdE r).e ≠ 0 := by
      unfold rdE
      rw [if_neg (fun h => h1 h.1)]
      exact h1
    simp only [bin_gtr, decide_eq_true (show ((n : Int) > 0) by omega), bind_some', condV_true, nilOk_ptr, fAddr_ptr, ld_at c0, cell2, bin_eql, decide_eq_false (show ¬ ((r.e : Int) = 0) by omega), condV_false, canon_ptr, e1, retOr_ret, ld_at c1, bin_neq, decide_eq_true (show (((rdE r).e : Int) ≠ 0) by omega), dc_j1 hJ]
    unfold dcRes
    simp only [if_neg (show ¬ ((rdE r).e = 0 ∧ batch l = true ∧ bodyB l = b) from fun h => e0 h.1), if_true]
theorem dchanges_loop {J : Jn (AEnd × H)} {k : Nat} (hJ : warrantorref27_Changes.F D k J) (id : Nat) (b : List UInt8) : ∀ (n m : Nat) (acc : List Change) (o : Own) (r : Rd) (h : H), n < m → mayApp o 11 true = true → acc.length + n ≤ 512 → (∀ x ∈ acc, x.entry.fit) → RdAt h id r → r.ok →
    ∃ h' o', warrantorref27_Changes.l0 J m (BL b) (.ptr id 0) (CL acc o) (.int .i64 n) h = some (.ret (dcRes b (acc ++ (rdL n r).1) (rdL n r).2 o'), h')
  | 0, m + 1, acc, o, r, h, _, ho, ha, hf, w, hk => by
    obtain ⟨h', e⟩ := dchanges_end hJ (m := m) (n := 0) (b := b) (l := acc) (o := o) w (.inl rfl) (by omega) hf
    refine ⟨h', o, ?_⟩
    unfold rdL
    rw [List.append_nil]
    exact e
  | n + 1, m + 1, acc, o, r, h, hm, ho, ha, hf, w, hk => by
    by_cases he : r.e = 0
    · obtain ⟨h1, e1, k1, w1⟩ := change_den w hk
      have q := rdCh_ok hk
      obtain ⟨h', o', e⟩ := dchanges_loop hJ id b n m (acc ++ [(rdCh r).1]) (.own 11) (rdCh r).2 h1 (by omega) rfl (by simp; omega) (fun x hx => by
        rcases List.mem_append.mp hx with hx | hx
        · exact hf x hx
        · rw [List.mem_singleton.mp hx]; exact q.2.1) w1 q.1
      refine ⟨h', o', ?_⟩
      have eL : rdL (n + 1) r = ((rdCh r).1 :: (rdL n (rdCh r).2).1, (rdL n (rdCh r).2).2) := by
        rw [rdL, if_neg (by omega)]
      rw [eL]
      simp only [List.append_assoc, List.singleton_append] at e
      refine Eq.trans ?_ e
      obtain ⟨o0, c0⟩ := w
      rw [warrantorref27_Changes.l0_eq hJ]
      simp only [bin_gtr, decide_eq_true (show (((n + 1 : Nat) : Int) > 0) by omega), bind_some', condV_true, nilOk_ptr, fAddr_ptr, ld_at c0, cell2, bin_eql, decide_eq_true (show ((r.e : Int) = 0) by omega)]
      rw [warrantorref27_Changes.j0_eq hJ]
      simp only [canon_ptr, e1, bind_some', retOr_ret]
      rw [show mkRows 11 [.int .i64 0, .int .u64 0, .int .i64 0, .int .i64 0, .str [], .str [], .int .i64 0, .str [], .int .i64 0, .int .i64 0, .str []] 1 [(0, .agg (rdCh r).1.c)] = some (CL [(rdCh r).1] .cap) from rfl]
      simp only [bind_some', CL_ap ho (show acc.length ≤ 2 ^ 30 by omega), bin_sub]
      rw [show (((n + 1 : Nat) : Int) - 1) = (n : Int) by omega, wrap_i64 (by omega) (by omega)]
    · obtain ⟨h', e⟩ := dchanges_end hJ (m := m) (n := n + 1) (b := b) (l := acc) (o := o) w (.inr he) (by omega) hf
      refine ⟨h', o, ?_⟩
      rw [rdL_bad he, List.append_nil]
      exact e
theorem dchanges_den (b : List UInt8) (o0 : Own) (hb : b.length ≤ 2 ^ 32) (h : H) : ∃ o, D n_warrantorref27_Changes [BL b] h = some (.ret (.tuple (match changesOf b with | some l => [CL l o, .bool true] | none => [.list [] .cap, .bool false])), h) := by
  obtain ⟨G, hG⟩ : ∃ G : H, G = ([] : H) ++ [AObj.arr ((⟨b, 0, 0⟩ : Rd).cells .no) false] := ⟨_, rfl⟩
  have w0 : RdAt G 0 ⟨b, 0, 0⟩ := ⟨.no, hG ▸ get_new⟩
  have hk : (⟨b, 0, 0⟩ : Rd).ok := ⟨Nat.zero_le _, hb, Nat.zero_le _⟩
  obtain ⟨h2, e2, k2, w2⟩ := dCount_den (m := 512) w0 hk (by decide)
  have q := rdN_ok (m := 512) hk
  rw [show (((512 : Nat) : Int)) = 512 from rfl] at e2
  obtain ⟨h3, o3, e3⟩ := dchanges_loop (warrantorref27_Changes.fx ((rdN 512 ⟨b, 0, 0⟩).1 + 1)) 0 b (rdN 512 ⟨b, 0, 0⟩).1 ((rdN 512 ⟨b, 0, 0⟩).1 + 1) [] .cap (rdN 512 ⟨b, 0, 0⟩).2 h2 (by omega) rfl (by simp; exact q.2.1) (fun x hx => nomatch hx) w2 q.1
  have key : warrantorref27_Changes.f (warrantorref27_Changes.JD ((rdN 512 ⟨b, 0, 0⟩).1 + 1)) (BL b) [] = some (.ret (.tuple (match changesOf b with | some l => [CL l o3, .bool true] | none => [.list [] .cap, .bool false])), h3) := by
    rw [warrantorref27_Changes.f_eq (warrantorref27_Changes.fx _)]
    rw [show mkAgg [.list [] .cap, .int .i64 0, .int .i64 0] [(0, 1, AV.copy (BL b))] = some (.agg ((⟨b, 0, 0⟩ : Rd).cells .no)) from rfl]
    rw [bind_some', bx_agg (cs := (⟨b, 0, 0⟩ : Rd).cells .no) rfl]
    simp only [bind_some', ← hG, List.length_nil, canon_ptr, canon_int, e2, retOr_ret]
    refine e3.trans ?_
    unfold dcRes changesOf
    simp only [List.nil_append]
    by_cases hc : (rdE (rdL (rdN 512 ⟨b, 0, 0⟩).1 (rdN 512 ⟨b, 0, 0⟩).2).2).e = 0 ∧ batch (rdL (rdN 512 ⟨b, 0, 0⟩).1 (rdN 512 ⟨b, 0, 0⟩).2).1 = true ∧ bodyB (rdL (rdN 512 ⟨b, 0, 0⟩).1 (rdN 512 ⟨b, 0, 0⟩).2).1 = b
    · simp only [if_pos hc]
    · simp only [if_neg hc]
  refine ⟨o3, warrantorref27_Changes.den _ (by simp) key ?_ ?_⟩
  · cases changesOf b <;> simp [AV.pure]
  · cases changesOf b <;> rfl
end Go.Proofs.YtdlnkfghgbddhaaGreat
