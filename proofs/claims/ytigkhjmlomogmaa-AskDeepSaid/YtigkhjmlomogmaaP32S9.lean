/- What the document's functions of the filters' layer come to: 3. -/
import Derived.Test.YtigkhjmlomogmaaP32S8
set_option linter.all false

open Go Go.Ve Go.Proofs
namespace Go.Proofs.Ytigkhjmlomogmaa
set_option maxRecDepth 100000
set_option linter.all false

theorem same_loop (a b : List Term) {n : Nat} {J : Jn (AEnd × H)} (hJ : warrantorref32_SameTerms.F D n J) (hab : a.length = b.length) (hl : a.length ≤ 1000000) : ∀ (d i m : Nat), i + d = a.length → d < m →
    warrantorref32_SameTerms.l0 J m (TL a) (TL b) (.int .i64 i) [] = some (.ret (.bool (decide (a.drop i = b.drop i))), [])
  | 0, i, m + 1, hi, _ => by
    rw [warrantorref32_SameTerms.l0_eq hJ]
    have h1 : ¬ (i : Int) < a.length := by omega
    simp [h1, List.drop_of_length_le (show a.length ≤ i by omega), List.drop_of_length_le (show b.length ≤ i by omega)]
  | d + 1, i, m + 1, hi, hm => by
    rw [warrantorref32_SameTerms.l0_eq hJ]
    have ha : i < a.length := by omega
    have hb : i < b.length := by omega
    have h1 : (i : Int) < a.length := by omega
    have ih := same_loop a b hJ hab hl d (i + 1) m (by omega) (by omega)
    simp only [Int.natCast_add, Int.cast_ofNat_Int] at ih
    have w2 : IntKind.wrap .i64 ((i : Int) + 1) = i + 1 := wrap_i64 (by omega) (by omega)
    have xa := ixSlice_map (k := .i64) (o := .no) (f := Term.c) (s := 5) ha Term.c_len
    have xb := ixSlice_map (k := .i64) (o := .no) (f := Term.c) (s := 5) hb Term.c_len
    have hd : (a.drop i = b.drop i) ↔ (a[i] = b[i] ∧ a.drop (i + 1) = b.drop (i + 1)) := by
      rw [List.drop_eq_getElem_cons ha, List.drop_eq_getElem_cons hb, List.cons.injEq]
    have hd2 : decide (a.drop i = b.drop i) = decide (a[i] = b[i] ∧ a.drop (i + 1) = b.drop (i + 1)) := decide_eq_decide.2 hd
    rw [hd2]
    by_cases he : a[i] = b[i]
    · simp [h1, xa, xb, term_eq, eqv, he, w2, ih]
    · simp [h1, xa, xb, term_eq, eqv, he]
theorem SameTerms_den (a b : List Term) (hl : a.length ≤ 1000000) (h : H) : D 11 [TL a, TL b] h = some (.ret (.bool (decide (a = b))), h) := by
  have key : ∀ {J : Jn (AEnd × H)} (hJ : warrantorref32_SameTerms.F D (a.length + 1) J), warrantorref32_SameTerms.f J (TL a) (TL b) [] = some (.ret (.bool (decide (a = b))), []) := by
    intro J hJ
    rw [warrantorref32_SameTerms.f_eq hJ]
    by_cases hab : a.length = b.length
    · have := same_loop a b hJ hab hl a.length 0 (a.length + 1) (by omega) (by omega)
      simp only [Int.cast_ofNat_Int, List.drop_zero] at this
      simp [hab] at this ⊢
      exact this
    · have h1 : ¬ (a.length : Int) = b.length := by omega
      have h2 : ¬ a = b := by rintro rfl; exact hab rfl
      simp [h1, h2]
  exact warrantorref32_SameTerms.den (a.length + 1) (by simp) (key (warrantorref32_SameTerms.fx _)) rfl rfl

theorem tkN_enc {p r : List Term} {f : Fl} (w : f.wf) (e : p = f.enc) : tkN (p ++ r) = p.length := by
  subst e
  have := tree_tk f (f.enc ++ r).length r w (Nat.le_refl _)
  simp only [tkN, this]
  simp
theorem refParts_den (f : Fl) (w : f.wf) (hl : f.enc.length ≤ 1000) (hs : Sm f.enc) (h : H) : ∃ o o', D 10 [TL f.enc] h = some (.ret (.tuple [TL f.parts.1 o, TL f.parts.2.1 o', .bool f.parts.2.2]), h) := by
  have w1 : IntKind.wrap .i64 1 = 1 := rfl
  have two : ∀ (t : Term) (p r : List Term) (g : Fl), g.wf → p = g.enc → f.enc = t :: (p ++ r) → 3 ≤ t.op → f.parts = (p, r, true) → ∃ o o', D 10 [TL f.enc] h = some (.ret (.tuple [TL f.parts.1 o, TL f.parts.2.1 o', .bool f.parts.2.2]), h) := by
    intro t p r g wg e1 e2 ho e3
    rw [e2] at hl hs
    simp only [List.length_cons, List.length_append] at hl
    have d22 := refTake_den _ (p ++ r) (Nat.le_refl _) (by simp; omega) hs.tail []
    rw [tkN_enc wg e1] at d22
    have hsl1 := slSlice_from (k := .i64) (o := .no) (f := Term.c) (l := t :: (p ++ r)) (s := 5) (i := 1) (by simp) Term.c_len
    have hsl2 := slSlice_from (k := .i64) (o := .no) (f := Term.c) (l := t :: (p ++ r)) (s := 5) (i := p.length + 1) (by simp) Term.c_len
    have hsl3 := slSlice_both (k := .i64) (k' := .i64) (o := .no) (f := Term.c) (l := t :: (p ++ r)) (s := 5) (i := 1) (j := p.length + 1) (by omega) (by simp) Term.c_len
    simp only [List.drop_succ_cons, List.drop_zero, Int.cast_ofNat_Int, List.take_succ_cons, List.take_left, List.drop_left, Int.natCast_add, List.map_cons, List.map_append] at hsl1 hsl2 hsl3
    have w3 : IntKind.wrap .i64 (1 + (p.length : Int)) = p.length + 1 := by rw [wrap_i64 (by omega) (by omega)]; omega
    have ho' : ¬ t.op < 3 := by omega
    refine ⟨.no, .no, ?_⟩
    rw [e2, e3]
    refine warrantorref32_Parts.den 0 (by simp) (h' := []) ?_ (by simp) (by kernel_rfl)
    generalize warrantorref32_Parts.JD 0 = J, warrantorref32_Parts.fx 0 = hJ
    rw [warrantorref32_Parts.f_eq hJ]
    simp only [TL, List.map_append] at d22
    simp [TL, ho', hsl1, d22, w3, hsl2, hsl3]
  cases f with
  | leaf t =>
    have ho := about_op.1 (show about t = 0 from w)
    have ho' : t.op < 3 := by omega
    refine ⟨.cap, .cap, warrantorref32_Parts.den 0 (by simp) (h' := []) ?_ rfl (by kernel_rfl)⟩
    generalize warrantorref32_Parts.JD 0 = J, warrantorref32_Parts.fx 0 = hJ
    rw [warrantorref32_Parts.f_eq hJ]
    simp [TL, Fl.enc, Fl.parts, ho']
  | not t f =>
    obtain ⟨a, b⟩ := w
    have := (about_op.2.1 a).1
    exact two t f.enc [] f b rfl (by simp [Fl.enc]) (by omega) rfl
  | two t f g =>
    obtain ⟨a, b, c⟩ := w
    have := (about_op.2.2 a).1
    exact two t f.enc g.enc f b rfl rfl (by omega) rfl

theorem not_leaf (t : Term) {o1 o2 : Own} (hp : D 10 [TL [t]] [] = some (.ret (.tuple [TL [] o1, TL [] o2, .bool false]), [])) {J : Jn (AEnd × H)} (hJ : warrantorref32_Not.F D 0 J) (b : Bool) : warrantorref32_Not.f J (TL [t]) (.bool b) [] = some (.ret (TL ((Fl.leaf t).opp b).enc (.own 5)), []) := by
  have hnot : mkAgg [.int .i64 0, .int .i64 0, .int .i64 0, .int .i64 0, .str []] [(0, 1, .int .i64 3)] = some (.agg notT.c) := rfl
  have m1 : mkRows 5 [.int .i64 0, .int .i64 0, .int .i64 0, .int .i64 0, .str []] 1 [(0, .agg notT.c)] = some (.list ([notT].map Term.c) .cap) := rfl
  have m0 : mkRows 5 [.int .i64 0, .int .i64 0, .int .i64 0, .int .i64 0, .str []] 0 [] = some (.list (([] : List Term).map Term.c) .cap) := rfl
  have a1 := ap_map (h := []) (f := Term.c) (l := [notT]) (l' := [t]) (s := 5) (o := .cap) (o' := .no) (bytes := 48) (byte := false) (owned := false) mayApp_cap (by omega) Term.c_len (by simp) (by simp)
  have a0 := ap_map (h := []) (f := Term.c) (l := []) (l' := [t]) (s := 5) (o := .cap) (o' := .no) (bytes := 48) (byte := false) (owned := false) mayApp_cap (by omega) Term.c_len (by simp) (by simp)
  rw [warrantorref32_Not.f_eq hJ]
  cases b
  · simp only [TL, canon_list, hp, Option.bind_some, retOr_ret, exTuple_eq, List.getElem?_cons_zero, List.getElem?_cons_succ, unOp_not, Bool.not_false, condV_bool, if_true, Bool.false_eq_true, if_false, m0, a0]
    rfl
  · simp only [TL, canon_list, hp, Option.bind_some, retOr_ret, exTuple_eq, List.getElem?_cons_zero, List.getElem?_cons_succ, unOp_not, Bool.not_false, condV_bool, if_true, copy_int, hnot, m1, a1]
    rfl
theorem not_not (t : Term) (p : List Term) {o1 o2 o : Own} {v : List Term} (ho : t.op = 3) {b : Bool} (hp : D 10 [TL (t :: p)] [] = some (.ret (.tuple [TL p o1, TL [] o2, .bool true]), [])) (ih : D 14 [TL p, .bool (!b)] [] = some (.ret (TL v o), [])) {J : Jn (AEnd × H)} (hJ : warrantorref32_Not.F D 0 J) : warrantorref32_Not.f J (TL (t :: p)) (.bool b) [] = some (.ret (TL v o), []) := by
  rw [warrantorref32_Not.f_eq hJ]
  have hi := ixSlice_zero (k := .i64) (o := .no) (r := t.c) (rows := p.map Term.c) (s := 5) (Term.c_len t)
  simp only [TL, List.map_cons] at hp ih ⊢
  simp only [canon_list, hp, Option.bind_some, retOr_ret, exTuple_eq, List.getElem?_cons_zero, List.getElem?_cons_succ, unOp_not, Bool.not_true, condV_bool, Bool.false_eq_true, if_false, hi, fAddr_rptr, ldCell_rptr, Nat.zero_add, Term.c0, ho, bin_eql, decide_true, if_true, canon_bool, ih]
theorem not_join (x : Int) (p r : List Term) {o1 o2 o o' : Own} {v u : List Term} {b : Bool} (ih : D 14 [TL p, .bool b] [] = some (.ret (TL v o), [])) (ih' : D 14 [TL r, .bool b] [] = some (.ret (TL u o'), [])) (lv : v.length ≤ 1000) (lu : u.length ≤ 1000) {J : Jn (AEnd × H)} (hJ : warrantorref32_Not.F D 0 J) : warrantorref32_Not.j0 J (.bool b) (TL p o1) (TL r o2) (.int .i64 x) [] = some (.ret (TL ((⟨x, 0, 0, 0, []⟩ : Term) :: (v ++ u)) (.own 5)), []) := by
  have hmk : mkAgg [.int .i64 0, .int .i64 0, .int .i64 0, .int .i64 0, .str []] [(0, 1, .int .i64 x)] = some (.agg (Term.c ⟨x, 0, 0, 0, []⟩)) := rfl
  have m1 : mkRows 5 [.int .i64 0, .int .i64 0, .int .i64 0, .int .i64 0, .str []] 1 [(0, .agg (Term.c ⟨x, 0, 0, 0, []⟩))] = some (.list ([(⟨x, 0, 0, 0, []⟩ : Term)].map Term.c) .cap) := rfl
  have a1 := ap_map (h := []) (f := Term.c) (l := [(⟨x, 0, 0, 0, []⟩ : Term)]) (l' := v) (s := 5) (o := .cap) (o' := o) (bytes := 48) (byte := false) (owned := false) mayApp_cap (by omega) Term.c_len (by simp; omega) (by simp; omega)
  have a2 := ap_map (h := []) (f := Term.c) (l := [(⟨x, 0, 0, 0, []⟩ : Term)] ++ v) (l' := u) (s := 5) (o := .own 5) (o' := o') (bytes := 48) (byte := false) (owned := true) mayApp_own (by omega) Term.c_len (by simp; omega) (by simp; omega)
  rw [warrantorref32_Not.j0_eq hJ]
  simp only [TL] at ih ih' a1 a2 ⊢
  simp only [copy_int, hmk, Option.bind_some, m1, canon_list, canon_bool, ih, retOr_ret, a1, ih', a2]
  rfl
theorem not_two (t : Term) (p r : List Term) {o1 o2 : Own} {b : Bool} {res : Option (AEnd × H)} (ho : t.op = 4 ∨ t.op = 5) (hp : D 10 [TL (t :: (p ++ r))] [] = some (.ret (.tuple [TL p o1, TL r o2, .bool true]), [])) {J : Jn (AEnd × H)} (hJ : warrantorref32_Not.F D 0 J) (hj : warrantorref32_Not.j0 J (.bool b) (TL p o1) (TL r o2) (.int .i64 (if b = true then 9 - t.op else t.op)) [] = res) : warrantorref32_Not.f J (TL (t :: (p ++ r))) (.bool b) [] = res := by
  rw [warrantorref32_Not.f_eq hJ]
  have hi := ixSlice_zero (k := .i64) (o := .no) (r := t.c) (rows := (p ++ r).map Term.c) (s := 5) (Term.c_len t)
  have e3 : ¬ t.op = 3 := by omega
  have w9 : IntKind.wrap .i64 (9 - t.op) = 9 - t.op := wrap_i64 (by omega) (by omega)
  simp only [TL, List.map_cons] at hp hj ⊢
  simp only [canon_list, hp, Option.bind_some, retOr_ret, exTuple_eq, List.getElem?_cons_zero, List.getElem?_cons_succ, unOp_not, Bool.not_true, condV_bool, Bool.false_eq_true, if_false, hi, fAddr_rptr, ldCell_rptr, Nat.zero_add, Term.c0, bin_eql, e3, decide_false, bin_sub, w9]
  cases b with
  | true => simp only [if_true] at hj ⊢; exact hj
  | false => simp only [Bool.false_eq_true, if_false] at hj ⊢; exact hj

theorem refNot_den (f : Fl) : ∀ (b : Bool), f.wf → f.enc.length ≤ 200 → Sm f.enc → ∀ h : H, ∃ o, D 14 [TL f.enc, .bool b] h = some (.ret (TL (f.opp b).enc o), h) := by
  induction f with
  | leaf t =>
    intro b w hl hs h
    obtain ⟨o1, o2, hp⟩ := refParts_den (.leaf t) w (by omega) hs []
    exact ⟨.own 5, warrantorref32_Not.den 0 (by simp) (not_leaf t hp (warrantorref32_Not.fx 0) b) (by simp) rfl⟩
  | not t f ihf =>
    intro b w hl hs h
    obtain ⟨o1, o2, hp⟩ := refParts_den (.not t f) w (by omega) hs []
    obtain ⟨wa, wb⟩ := w
    simp only [Fl.enc, List.length_cons] at hl
    obtain ⟨o, ih⟩ := ihf (!b) wb (by omega) hs.tail []
    exact ⟨o, warrantorref32_Not.den 0 (by simp) (not_not t f.enc (about_op.2.1 wa).1 hp ih (warrantorref32_Not.fx 0)) (by simp) rfl⟩
  | two t f g ihf ihg =>
    intro b w hl hs h
    obtain ⟨o1, o2, hp⟩ := refParts_den (.two t f g) w (by omega) hs []
    obtain ⟨wa, wb, wc⟩ := w
    simp only [Fl.enc, List.length_cons, List.length_append] at hl
    obtain ⟨o, ih⟩ := ihf b wb (by omega) hs.tail.left []
    obtain ⟨o', ih'⟩ := ihg b wc (by omega) hs.tail.right []
    have lf := f.opp_len b
    have lg := g.opp_len b
    exact ⟨.own 5, warrantorref32_Not.den 0 (by simp) (not_two t f.enc g.enc (about_op.2.2 wa).1 hp (warrantorref32_Not.fx 0) (not_join _ f.enc g.enc ih ih' (by omega) (by omega) (warrantorref32_Not.fx 0))) (by simp [Fl.opp]) rfl⟩
end Go.Proofs.Ytigkhjmlomogmaa
