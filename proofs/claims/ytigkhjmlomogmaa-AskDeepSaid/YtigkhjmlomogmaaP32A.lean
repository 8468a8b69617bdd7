/- The laws of the filters' layer: AskParts. -/
import Derived.Test.YtigkhjmlomogmaaP32S9
import Derived.Test.YtigkhjmlomogmaaP32L
set_option linter.all false

open Go Go.Ve Go.Proofs
namespace Go.Proofs.Ytigkhjmlomogmaa
set_option maxRecDepth 100000
set_option linter.all false

theorem small_of {l : List Term} (h : large l = false) : l.length ≤ 200 ∧ Sm l := by
  simp only [large, Bool.or_eq_false_iff, decide_eq_false_iff_not, List.any_eq_false, decide_eq_true_eq] at h
  exact ⟨by omega, fun t ht => by have := h.2 t ht; omega⟩

theorem Fl.parts_len (f : Fl) : f.parts.1.length ≤ f.enc.length ∧ f.parts.2.1.length ≤ f.enc.length := by
  cases f with
  | leaf t => simp [Fl.parts]
  | not t g => simp [Fl.parts, Fl.enc]
  | two t g k => simp only [Fl.parts, Fl.enc, List.length_cons, List.length_append]; omega

/-- The evaluation alone, where a filter is right. -/
theorem parts_right {call : Cl} {J : Jn (AEnd × H)} (hJ : warrantorlaw32_AskParts.F call 0 J) {l a b : List Term} {is : Bool} {o o' o2 o2' : Own} {t : Term} {ts : List Term} (hl : l = t :: ts)
    (h6 : call 6 [TL l] [] = some (.ret (.bool false), [])) (h7 : call 7 [] [] = some (.ret (.bool true), [])) (h8 : call 8 [TL l] [] = some (.ret (.tuple [TL a o, TL b o', .bool is]), [])) (h9 : call 9 [TL l] [] = some (.ret (.int .i64 0), []))
    (h10 : call 10 [TL l] [] = some (.ret (.tuple [TL a o2, TL b o2', .bool is]), [])) (s1 : call 11 [TL a, TL a] [] = some (.ret (.bool true), [])) (s2 : call 11 [TL b, TL b] [] = some (.ret (.bool true), []))
    (h12 : is = true → call 12 [TL a] [] = some (.ret (.int .i64 0), [])) (hlast : is = true → decide ((b.length : Int) = 0) = decide (t.op = 3)) : warrantorlaw32_AskParts.f J (TL l) [] = some (.ret (.bool true), []) := by
  rw [warrantorlaw32_AskParts.f_eq hJ]
  have hi := ixSlice_zero (k := .i64) (o := .no) (r := t.c) (rows := ts.map Term.c) (s := 5) (Term.c_len t)
  have hr : TL l = .list (t.c :: ts.map Term.c) .no := by rw [hl]; rfl
  rw [← hr] at hi
  have c1 : ∀ x o, AV.canon (TL x o) = TL x := fun _ _ => rfl
  have l1 : ∀ x o, lnSl (TL x o) = some (.int .i64 x.length) := fun x o => by simp [TL]
  cases is with
  | false => simp only [c1, h6, bind_some', retOr_ret, condV_true, condV_false, h8, exTuple_eq, List.getElem?_cons_zero, List.getElem?_cons_succ, h7, unOp_not, Bool.not_true, h9, bin_neq, ne_eq, not_true, decide_false, h10, binBool_eql, beq_self_eq_true, s1, s2, Bool.not_false, copy_bool]
  | true =>
    have e := hlast rfl
    simp only [c1, h6, bind_some', retOr_ret, condV_true, condV_false, h8, exTuple_eq, List.getElem?_cons_zero, List.getElem?_cons_succ, h7, unOp_not, Bool.not_true, h9, bin_neq, ne_eq, not_true, decide_false, h10, binBool_eql, beq_self_eq_true, s1, s2, h12 rfl, bin_eql, decide_true, l1, hi, fAddr_rptr, ldCell_rptr, Nat.zero_add, Term.c0, e, copy_bool]
theorem parts_wrong {call : Cl} {J : Jn (AEnd × H)} (hJ : warrantorlaw32_AskParts.F call 0 J) {l : List Term} {e : Int} (he : ¬ e = 0)
    (h6 : call 6 [TL l] [] = some (.ret (.bool false), [])) (h7 : call 7 [] [] = some (.ret (.bool true), [])) (h8 : call 8 [TL l] [] = some (.ret (.tuple [.list [] .cap, .list [] .cap, .bool false]), [])) (h9 : call 9 [TL l] [] = some (.ret (.int .i64 e), [])) : warrantorlaw32_AskParts.f J (TL l) [] = some (.ret (.bool true), []) := by
  rw [warrantorlaw32_AskParts.f_eq hJ]
  have c1 : ∀ x o, AV.canon (TL x o) = TL x := fun _ _ => rfl
  simp only [c1, h6, bind_some', retOr_ret, condV_true, condV_false, h8, exTuple_eq, List.getElem?_cons_zero, List.getElem?_cons_succ, h7, unOp_not, Bool.not_true, h9, bin_neq, ne_eq, he, not_false_eq_true, decide_true, Bool.not_false, lnSl_list, List.length_nil, bin_eql, Int.cast_ofNat_Int, copy_bool]
theorem parts_large {call : Cl} {J : Jn (AEnd × H)} (hJ : warrantorlaw32_AskParts.F call 0 J) {l : List Term}
    (h6 : call 6 [TL l] [] = some (.ret (.bool true), [])) (h7 : call 7 [] [] = some (.ret (.bool true), [])) : warrantorlaw32_AskParts.f J (TL l) [] = some (.ret (.bool true), []) := by
  rw [warrantorlaw32_AskParts.f_eq hJ]
  have c1 : ∀ x o, AV.canon (TL x o) = TL x := fun _ _ => rfl
  simp only [c1, h6, bind_some', retOr_ret, condV_true, h7]

theorem parts_law (l : List Term) : D 3 [TL l] [] = some (.ret (.bool true), []) := by
  refine warrantorlaw32_AskParts.den 0 (by simp) (h' := []) ?_ rfl rfl
  have hL := Large_den l []
  have hv := lives_den []
  cases hlg : large l with
  | true =>
    rw [hlg] at hL
    exact parts_large (warrantorlaw32_AskParts.fx 0) hL hv
  | false =>
    rw [hlg] at hL
    obtain ⟨hl, hs⟩ := small_of hlg
    have h9 := refFilter_den l (by omega) hs []
    by_cases hf : filterE l = 0
    · obtain ⟨f, w, rfl, hn, hlen⟩ := filter_ok hf
      obtain ⟨o, o', hp⟩ := Parts_den f w hf []
      obtain ⟨o2, o2', hr⟩ := refParts_den f w (by omega) hs []
      rw [hf] at h9
      have fl := f.parts_len
      have s1 := SameTerms_den f.parts.1 f.parts.1 (by omega) []
      have s2 := SameTerms_den f.parts.2.1 f.parts.2.1 (by omega) []
      simp only [decide_true] at s1 s2
      cases f with
      | leaf t => exact parts_right (warrantorlaw32_AskParts.fx 0) (t := t) (ts := []) rfl hL hv hp h9 hr s1 s2 (fun h => by cases h) (fun h => by cases h)
      | not t g =>
        obtain ⟨wa, wb⟩ := w
        have ho := (about_op.2.1 wa).1
        have hg : filterE g.enc = 0 := by
          rw [filter_enc wb]
          simp only [Fl.enc, List.length_cons, Fl.nest] at hlen hn
          rw [if_neg (by omega), if_neg (by omega)]
        have h12 := Filter_den g.enc []
        rw [hg] at h12
        exact parts_right (warrantorlaw32_AskParts.fx 0) (t := t) (ts := g.enc) rfl hL hv hp h9 hr s1 s2 (fun _ => h12) (fun _ => by simp [Fl.parts, ho])
      | two t g k =>
        obtain ⟨wa, wb, wc⟩ := w
        have ho := (about_op.2.2 wa).1
        have hg : filterE g.enc = 0 := by
          rw [filter_enc wb]
          simp only [Fl.enc, List.length_cons, List.length_append, Fl.nest] at hlen hn
          rw [if_neg (by omega), if_neg (by omega)]
        have h12 := Filter_den g.enc []
        rw [hg] at h12
        have kp := k.enc_pos
        have ho3 : ¬ t.op = 3 := by omega
        have kz : ¬ (k.enc.length : Int) = 0 := by omega
        exact parts_right (warrantorlaw32_AskParts.fx 0) (t := t) (ts := g.enc ++ k.enc) rfl hL hv hp h9 hr s1 s2 (fun _ => h12) (fun _ => by show decide ((k.enc.length : Int) = 0) = _; rw [decide_eq_false kz, decide_eq_false ho3])
    · exact parts_wrong (warrantorlaw32_AskParts.fx 0) hf hL hv (Parts_bad l hf []) h9
end Go.Proofs.Ytigkhjmlomogmaa
