/- The laws of the filters' layer: AskNots. -/
import Derived.Test.YtigkhjmlomogmaaP32A
set_option linter.all false

open Go Go.Ve Go.Proofs
namespace Go.Proofs.Ytigkhjmlomogmaa
set_option maxRecDepth 100000
set_option linter.all false

theorem canon_TL (x : List Term) (o : Own) : AV.canon (TL x o) = TL x := rfl
theorem filter_cases {f : Fl} (w : f.wf) : filterE f.enc = 0 ∨ (¬ filterE f.enc = 0 ∧ (128 < f.enc.length ∨ 32 < f.nest)) := by
  rw [filter_enc w]
  split
  · exact .inr ⟨by omega, by omega⟩
  · split
    · exact .inr ⟨by omega, by omega⟩
    · exact .inl rfl
theorem nots_j3 {n : Nat} {J : Jn (AEnd × H)} (hJ : warrantorlaw32_AskNots.F D n J) (f : Fl) (w : f.wf) (hg : filterE (f.opp false).enc = 0) (hl : (f.opp true).enc.length ≤ 1000000) (o o' : Own) :
    warrantorlaw32_AskNots.j3 J (TL (f.opp true).enc o) (TL (f.opp false).enc o') [] = some (.ret (.bool true), []) := by
  rw [warrantorlaw32_AskNots.j3_eq hJ]
  obtain ⟨o2, hn⟩ := Not_den (f.opp false) (f.opp_wf _ w) hg []
  rw [f.opp_opp false true w] at hn
  have hs := SameTerms_den (f.opp true).enc (f.opp true).enc hl []
  simp only [decide_true] at hs
  simp only [canon_TL, hn, bind_some', retOr_ret, exTuple_eq, List.getElem?_cons_zero, List.getElem?_cons_succ, bin_eql, decide_true, condV_true, Bool.false_bne, hs, copy_bool]
theorem nots_end {n : Nat} {J : Jn (AEnd × H)} (hJ : warrantorlaw32_AskNots.F D n J) (m : Nat) (f : Fl) (w : f.wf) (hf : filterE f.enc = 0) (hl : f.enc.length ≤ 128) (hd : f.nest ≤ 32) (o : Own) (i : Int) (i0 : 0 ≤ i) (hi : i + 1 = (f.opp true).enc.length) :
    warrantorlaw32_AskNots.l0 J (m + 1) (TL f.enc) (TL (f.opp true).enc o) (.int .i64 i) [] = some (.ret (.bool true), []) := by
  rw [warrantorlaw32_AskNots.l0_eq hJ]
  have ln := f.opp_len true
  have nn := f.opp_nest true
  have w1 := f.opp_wf true w
  have hF := Filter_den (f.opp true).enc []
  have l1 : ∀ (x : List Term) (o : Own), lnSl (TL x o) = some (.int .i64 x.length) := fun x o => by simp [TL]
  have ha : bin .add (.int .i64 i) (.int .i64 1) = some (.int .i64 (i + 1)) := by rw [bin_add, wrap_i64 (by omega) (by omega)]
  have hlt : decide ((i + 1) < ((f.opp true).enc.length : Int)) = false := by rw [hi]; simp
  simp only [ha, bind_some', l1, bin_lss, hlt, condV_false, canon_TL, hF, retOr_ret, bin_neq]
  rcases filter_cases w1 with h0 | ⟨h0, h1⟩
  · rw [h0]
    simp only [ne_eq, not_true, decide_false, condV_false]
    obtain ⟨o2, hn⟩ := Not_den (f.opp true) w1 h0 []
    rw [f.opp_opp true true w] at hn
    simp only [hn, bind_some', retOr_ret, exTuple_eq, List.getElem?_cons_zero, List.getElem?_cons_succ, ne_eq, not_true, decide_false, condV_false, Bool.true_bne, Bool.not_true]
    have w2 := f.opp_wf false w
    have hF2 := Filter_den (f.opp false).enc []
    simp only [canon_TL, hF2, bind_some', retOr_ret, bin_neq, ne_eq, not_true, decide_false, condV_false]
    rw [warrantorlaw32_AskNots.j4_eq hJ]
    rcases filter_cases w2 with k0 | ⟨k0, k1⟩
    · rw [k0]
      simp only [ne_eq, not_true, decide_false, condV_false]
      exact nots_j3 hJ f w k0 (by omega) o o2
    · simp only [ne_eq, k0, not_false_eq_true, decide_true, condV_true, l1, bind_some', bin_gtr, canon_TL, Nest_den (f.opp true) w1 h0 [], retOr_ret, bin_geq, copy_bool]
      by_cases hb : 128 < (f.opp false).enc.length
      · have : decide (((f.opp false).enc.length : Int) > 128) = true := decide_eq_true (by omega)
        simp only [this, condV_true]
      · have e1 : decide (((f.opp false).enc.length : Int) > 128) = false := decide_eq_false (by omega)
        have nn2 := (f.opp true).opp_nest true
        rw [f.opp_opp true true w] at nn2
        simp only [Bool.true_bne, Bool.not_true] at nn2
        have e2 : decide ((f.opp true).nest ≥ 31) = true := decide_eq_true (by omega)
        simp only [e1, condV_false, e2]
  · simp only [ne_eq, h0, not_false_eq_true, decide_true, condV_true, l1, bind_some', bin_gtr, canon_TL, Nest_den f w hf [], retOr_ret, bin_eql, copy_bool]
    by_cases hb : 128 < (f.opp true).enc.length
    · have : decide (((f.opp true).enc.length : Int) > 128) = true := decide_eq_true (by omega)
      simp only [this, condV_true]
    · have e1 : decide (((f.opp true).enc.length : Int) > 128) = false := decide_eq_false (by omega)
      have e2 : decide (f.nest = 32) = true := decide_eq_true (by omega)
      simp only [e1, condV_false, e2]
theorem nots_loop {n : Nat} {J : Jn (AEnd × H)} (hJ : warrantorlaw32_AskNots.F D n J) (f : Fl) (w : f.wf) (hf : filterE f.enc = 0) (hl : f.enc.length ≤ 128) (hd : f.nest ≤ 32) (o : Own) : ∀ (d i m : Nat), i + d + 1 = (f.opp true).enc.length → d < m →
    warrantorlaw32_AskNots.l0 J m (TL f.enc) (TL (f.opp true).enc o) (.int .i64 i) [] = some (.ret (.bool true), [])
  | 0, i, m + 1, h1, _ => nots_end hJ m f w hf hl hd o i (by omega) (by omega)
  | d + 1, i, m + 1, h1, h2 => by
    have ih := nots_loop hJ f w hf hl hd o d (i + 1) m (by omega) (by omega)
    rw [warrantorlaw32_AskNots.l0_eq hJ]
    have ln := f.opp_len true
    have hi : i + 1 < (f.opp true).enc.length := by omega
    have l1 : ∀ (x : List Term) (o : Own), lnSl (TL x o) = some (.int .i64 x.length) := fun x o => by simp [TL]
    have ha : bin .add (.int .i64 i) (.int .i64 1) = some (.int .i64 ((i + 1 : Nat) : Int)) := by rw [bin_add, wrap_i64 (by omega) (by omega)]; rfl
    have hlt : decide (((i + 1 : Nat) : Int) < ((f.opp true).enc.length : Int)) = true := decide_eq_true (by omega)
    have x1 := ixSlice_map (k := .i64) (o := o) (f := Term.c) (show i < (f.opp true).enc.length by omega) Term.c_len
    have x2 := ixSlice_map (k := .i64) (o := o) (f := Term.c) hi Term.c_len
    have ht := tight_at _ i hi (f.opp_tight true w)
    simp only [ha, bind_some', l1, bin_lss, hlt, condV_true, x1, x2, fAddr_rptr, ldCell_rptr, Nat.zero_add, Term.c0, bin_eql, bin_neq]
    have hend : warrantorlaw32_AskNots.j2 J m (TL f.enc) (TL (f.opp true).enc o) (.int .i64 i) (.bool false) [] = some (.ret (.bool true), []) := by
      rw [warrantorlaw32_AskNots.j2_eq hJ]
      simp only [condV_false, ha, bind_some', ih]
    by_cases h3 : ((f.opp true).enc[i]).op = 3
    · simp only [decide_eq_true h3, condV_true]
      by_cases h4 : ((f.opp true).enc[i + 1]).op = 2
      · simp only [ne_eq, h4, not_true, decide_false, condV_false, hend]
      · have h5 : ((f.opp true).enc[i + 1]).op = 1 := by rcases ht h3 with h | h <;> first | exact h | exact absurd h h4
        have h6 : decide (((f.opp true).enc[i + 1]).op ≠ 2) = true := decide_eq_true h4
        have h7 : decide (((f.opp true).enc[i + 1]).op ≠ 1) = false := decide_eq_false (by simp [h5])
        simp only [h6, h7, condV_true, hend]
    · simp only [decide_eq_false h3, condV_false, hend]
theorem nots_law (l : List Term) : D 4 [TL l] [] = some (.ret (.bool true), []) := by
  refine warrantorlaw32_AskNots.den 1000 (by simp) (h' := []) ?_ rfl rfl
  have hL := Large_den l []
  have hv := lives_den []
  rw [warrantorlaw32_AskNots.f_eq (warrantorlaw32_AskNots.fx 1000)]
  cases hlg : large l with
  | true =>
    rw [hlg] at hL
    simp only [canon_TL, hL, hv, bind_some', retOr_ret, condV_true]
  | false =>
    rw [hlg] at hL
    obtain ⟨hl, hs⟩ := small_of hlg
    have h9 := refFilter_den l (by omega) hs []
    by_cases hf : filterE l = 0
    · obtain ⟨f, w, rfl, hn, hlen⟩ := filter_ok hf
      obtain ⟨o, hp⟩ := Not_den f w hf []
      obtain ⟨o2, hr⟩ := refNot_den f true w (by omega) hs []
      have ln := f.opp_len true
      have hsame := SameTerms_den (f.opp true).enc (f.opp true).enc (by omega) []
      simp only [decide_true] at hsame
      rw [hf] at h9
      have pos := (f.opp true).enc_pos
      have hloop := nots_loop (warrantorlaw32_AskNots.fx 1000) f w hf hlen hn o ((f.opp true).enc.length - 1) 0 1000 (by omega) (by omega)
      simp only [canon_TL, hL, hv, bind_some', retOr_ret, condV_true, condV_false, hp, exTuple_eq, List.getElem?_cons_zero, List.getElem?_cons_succ, h9, unOp_not, Bool.not_true, bin_neq, ne_eq, not_true, decide_false, warrantorlaw32_AskNots.j1_eq (warrantorlaw32_AskNots.fx 1000), warrantorlaw32_AskNots.j0_eq (warrantorlaw32_AskNots.fx 1000), canon_bool, hr, hsame]
      exact hloop
    · have hb := Not_bad l hf []
      simp only [canon_TL, hL, hv, bind_some', retOr_ret, condV_true, condV_false, hb, exTuple_eq, List.getElem?_cons_zero, List.getElem?_cons_succ, h9, unOp_not, Bool.not_true, bin_neq, ne_eq, not_true, decide_false, warrantorlaw32_AskNots.j1_eq (warrantorlaw32_AskNots.fx 1000), warrantorlaw32_AskNots.j0_eq (warrantorlaw32_AskNots.fx 1000), hf, not_false_eq_true, decide_true, lnSl_list, List.length_nil, bin_eql, copy_bool, Int.cast_ofNat_Int]
end Go.Proofs.Ytigkhjmlomogmaa
