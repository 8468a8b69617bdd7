/- What the functions of the filters' layer come to: 6: the filter of what another one does not mean. -/
import Derived.Test.YtigkhjmlomogmaaP32S5
set_option linter.all false

open Go Go.Ve Go.Proofs
namespace Go.Proofs.Ytigkhjmlomogmaa
set_option maxRecDepth 100000

theorem Nest_den (f : Fl) (w : f.wf) (hf : filterE f.enc = 0) (h : H) : D 15 [TL f.enc] h = some (.ret (.int .i64 f.nest), h) := by
  obtain ⟨_, _, _, _, _⟩ := filter_ok hf
  have hlen : f.enc.length ≤ 128 := by
    rw [filter_enc w] at hf
    split at hf
    · cases hf
    · omega
  obtain ⟨t1, _⟩ := take_den f.enc.length f.enc 0 1 (Nat.le_refl _) (by omega) (by omega) (by omega) (by omega)
  have htk := tree_tk f f.enc.length [] w (by simp)
  rw [List.append_nil] at htk
  have hd := t1 _ _ htk
  have hp := f.nest_pos
  rw [show max (0 : Int) (1 + f.nest - 1) = f.nest by omega] at hd
  have hmk : mkAgg [.list [] .cap, .int .i64 0] [(0, 1, TL f.enc)] = some (.agg [TL f.enc, .int .i64 0]) := rfl
  refine ask_Nest.den 0 (by simp) (h' := tkH [] f.nest) ?_ rfl rfl
  rw [ask_Nest.f_eq (ask_Nest.fx _)]
  simp [Filter_den, hf, hmk, tkH_new, hd]
  simp [tkH]

/-- Lists in a list. -/
abbrev LL (ls : List (List Term)) : AV := .list (ls.map fun l => [TL l]) .no
theorem concat_sum (ls : List (List Term)) (n : Nat) (hs : ls.flatten.length ≤ 1000000) (hl : ls.length ≤ 1000) : ∀ (d i m : Nat), i + d = ls.length → d < m → ∀ res : AEnd × H,
    (∀ (o : Own), slices_Concat_api_Term_api_Term.l1 (slices_Concat_api_Term_api_Term.JD n) n (.list [] (.own 5)) (LL ls) (.int .i64 ls.length) (.int .i64 0) [] = some res) →
    slices_Concat_api_Term_api_Term.l0 (slices_Concat_api_Term_api_Term.JD n) m (LL ls) (.int .i64 (ls.take i).flatten.length) (LL ls) (.int .i64 ls.length) (.int .i64 i) [] = some res
  | 0, i, m + 1, hi, _, res, hres => by
    rw [slices_Concat_api_Term_api_Term.l0_eq (slices_Concat_api_Term_api_Term.fx n)]
    have h1 : ¬ (i : Int) < ls.length := by omega
    have h2 : ls.take i = ls := List.take_of_length_le (by omega)
    have hg : D 35 [.list [] .cap, .int .i64 ls.flatten.length] [] = some (.ret (.list [] (.own 5)), []) := by
      refine den_ext (e := growNil 5 48) (by kernel_rfl) ?_
      simp only [growNil]
      rw [if_pos ⟨by omega, by omega, by omega⟩]
    rw [h2]
    have := hres .no
    simp only [bin_lss, Option.bind_some, condV_bool, h1, decide_false, Bool.false_eq_true, if_false, copy_cap, copy_int, hg, retOr_ret, lnSl_list, List.length_map]
    exact this
  | d + 1, i, m + 1, hi, hm, res, hres => by
    rw [slices_Concat_api_Term_api_Term.l0_eq (slices_Concat_api_Term_api_Term.fx n)]
    have hil : i < ls.length := by omega
    have h1 : (i : Int) < ls.length := by omega
    have ih := concat_sum ls n hs hl d (i + 1) m (by omega) (by omega) res hres
    have ht : (ls.take (i + 1)).flatten.length = (ls.take i).flatten.length + ls[i].length := by
      rw [List.take_succ_eq_append_getElem hil, List.flatten_append, List.length_append, List.flatten_singleton]
    have hle : (ls.take (i + 1)).flatten.length ≤ ls.flatten.length := by
      conv => rhs; rw [← List.take_append_drop (i + 1) ls]
      simp only [List.flatten_append, List.length_append]
      omega
    rw [ht] at ih hle
    have hix := ixSlice_map (k := .i64) (o := .no) (f := fun l => [TL l]) (s := 1) hil (fun _ => rfl)
    have w1 : IntKind.wrap .i64 ((ls.take i).flatten.length + ls[i].length : Int) = (ls.take i).flatten.length + ls[i].length := wrap_i64 (by omega) (by omega)
    have w2 : IntKind.wrap .i64 ((i : Int) + 1) = i + 1 := wrap_i64 (by omega) (by omega)
    have h2 : ¬ (((ls.take i).flatten.length : Int) + ls[i].length < 0) := by omega
    simp only [Int.natCast_add, Int.cast_ofNat_Int] at ih
    simp only [bin_lss, Option.bind_some, condV_bool, h1, decide_true, if_true, LL, hix, ldCell_rptr, List.getElem?_cons_zero, lnSl_list, List.length_map, bin_add, w1, h2, decide_false, Bool.false_eq_true, if_false, w2]
    exact ih

theorem concat_all (ls : List (List Term)) (n : Nat) (hs : ls.flatten.length ≤ 1000000) (hl : ls.length ≤ 1000) : ∀ (d i m : Nat), i + d = ls.length → d < m →
    slices_Concat_api_Term_api_Term.l1 (slices_Concat_api_Term_api_Term.JD n) m (TL (ls.take i).flatten (.own 5)) (LL ls) (.int .i64 ls.length) (.int .i64 i) [] = some (.ret (TL ls.flatten (.own 5)), [])
  | 0, i, m + 1, hi, _ => by
    rw [slices_Concat_api_Term_api_Term.l1_eq (slices_Concat_api_Term_api_Term.fx n)]
    have h1 : ¬ (i : Int) < ls.length := by omega
    have h2 : ls.take i = ls := List.take_of_length_le (by omega)
    simp [h1, h2]
  | d + 1, i, m + 1, hi, hm => by
    rw [slices_Concat_api_Term_api_Term.l1_eq (slices_Concat_api_Term_api_Term.fx n)]
    have hil : i < ls.length := by omega
    have h1 : (i : Int) < ls.length := by omega
    have ih := concat_all ls n hs hl d (i + 1) m (by omega) (by omega)
    have ht : (ls.take (i + 1)).flatten = (ls.take i).flatten ++ ls[i] := by
      rw [List.take_succ_eq_append_getElem hil, List.flatten_append, List.flatten_singleton]
    have hle : (ls.take (i + 1)).flatten.length ≤ ls.flatten.length := by
      conv => rhs; rw [← List.take_append_drop (i + 1) ls]
      simp only [List.flatten_append, List.length_append]
      omega
    rw [ht] at ih hle
    simp only [List.length_append] at hle
    have hix := ixSlice_map (k := .i64) (o := .no) (f := fun l => [TL l]) (s := 1) hil (fun _ => rfl)
    have hap := ap_map (h := []) (f := Term.c) (l := (ls.take i).flatten) (l' := ls[i]) (s := 5) (o := .own 5) (o' := .no) (bytes := 48) (byte := false) (owned := true) mayApp_own (by omega) Term.c_len (by omega) (by omega)
    have w2 : IntKind.wrap .i64 ((i : Int) + 1) = i + 1 := wrap_i64 (by omega) (by omega)
    simp only [Int.natCast_add, Int.cast_ofNat_Int] at ih
    simp only [bin_lss, Option.bind_some, condV_bool, h1, decide_true, if_true, LL, hix, ldCell_rptr, List.getElem?_cons_zero, hap, bin_add, w2]
    exact ih
theorem Concat_den (ls : List (List Term)) (hs : ls.flatten.length ≤ 1000000) (hl : ls.length ≤ 1000) (h : H) : D 30 [LL ls] h = some (.ret (TL ls.flatten (.own 5)), h) := by
  have hp : pureR (ls.map fun l => [TL l]) = true := pureR_map fun l => by simp
  refine slices_Concat_api_Term_api_Term.den (ls.length + 1) (by simp only [pureL, LL, AV.pure, hp, Bool.and_self]) (h' := []) ?_ (Term.l_pure _) rfl
  rw [slices_Concat_api_Term_api_Term.f_eq (slices_Concat_api_Term_api_Term.fx _)]
  have h1 := concat_all ls (ls.length + 1) hs hl ls.length 0 (ls.length + 1) (by omega) (by omega)
  have h0 := concat_sum ls (ls.length + 1) hs hl ls.length 0 (ls.length + 1) (by omega) (by omega) _ (fun _ => h1)
  simp only [List.take_zero, List.flatten_nil, List.length_nil, Int.cast_ofNat_Int] at h0
  simp only [lnSl_list, List.length_map, Option.bind_some]
  exact h0

/-- The opposite of a filter (or itself), without more of it than must be. -/
def notT : Term := ⟨3, 0, 0, 0, []⟩
def Fl.opp : Fl → Bool → Fl
  | .leaf t, b => if b = true then .not notT (.leaf t) else .leaf t
  | .not _ f, b => f.opp (!b)
  | .two t f g, b => .two ⟨if b = true then 9 - t.op else t.op, 0, 0, 0, []⟩ (f.opp b) (g.opp b)
theorem about_op {t : Term} : (about t = 0 → t.op = 1 ∨ t.op = 2) ∧ (about t = 1 → t.op = 3 ∧ t = ⟨3, 0, 0, 0, []⟩) ∧ (about t = 2 → (t.op = 4 ∨ t.op = 5) ∧ t = ⟨t.op, 0, 0, 0, []⟩) := by
  have hb : bare t = true → t = ⟨t.op, 0, 0, 0, []⟩ := fun h => by simpa [bare] using h
  unfold about
  by_cases h2 : t.op = 2
  · simp only [h2, if_true]
    split <;> simp
  · simp only [h2, if_false]
    by_cases h : bare t = true
    · have e := hb h
      simp only [h, if_true]
      by_cases h1 : t.op = 1
      · simp [h1]
      by_cases h3 : t.op = 3
      · simp only [h3] at e
        simp [h3, ← e]
      by_cases h4 : t.op = 4
      · simp [h4]; rw [h4] at e; exact e
      by_cases h5 : t.op = 5
      · simp [h5]; rw [h5] at e; exact e
      simp [h1, h3, h4, h5]
    · simp [h]
theorem about_two (x : Int) (h : x = 4 ∨ x = 5) : about ⟨x, 0, 0, 0, []⟩ = 2 := by rcases h with rfl | rfl <;> rfl
theorem Fl.opp_wf : ∀ (f : Fl) (b : Bool), f.wf → (f.opp b).wf
  | .leaf t, b, w => by
    have w : about t = 0 := w
    cases b
    · exact w
    · exact ⟨rfl, w⟩
  | .not t f, b, w => f.opp_wf (!b) w.2
  | .two t f g, b, w => by
    obtain ⟨w1, w2, w3⟩ := w
    have ho := (about_op.2.2 w1).1
    refine ⟨about_two _ ?_, f.opp_wf b w2, g.opp_wf b w3⟩
    cases b <;> simp <;> omega
theorem Fl.opp_nest : ∀ (f : Fl) (b : Bool), (f.opp b).nest ≤ f.nest + 1
  | .leaf t, b => by cases b <;> simp [opp, nest]
  | .not t f, b => by have := f.opp_nest (!b); simp only [opp, nest]; omega
  | .two t f g, b => by have := f.opp_nest b; have := g.opp_nest b; simp only [opp, nest]; omega
theorem Fl.opp_len : ∀ (f : Fl) (b : Bool), (f.opp b).enc.length ≤ 2 * f.enc.length
  | .leaf t, b => by cases b <;> simp [opp, enc]
  | .not t f, b => by have := f.opp_len (!b); simp only [opp, enc, List.length_cons]; omega
  | .two t f g, b => by have := f.opp_len b; have := g.opp_len b; simp only [opp, enc, List.length_cons, List.length_append]; omega
theorem Fl.opp_opp : ∀ (f : Fl) (b c : Bool), f.wf → (f.opp b).opp c = f.opp (b != c)
  | .leaf t, b, c, _ => by cases b <;> cases c <;> rfl
  | .not t f, b, c, w => by
    simp only [opp]
    rw [f.opp_opp (!b) c w.2]
    cases b <;> cases c <;> rfl
  | .two t f g, b, c, w => by
    obtain ⟨w1, w2, w3⟩ := w
    simp only [opp]
    rw [f.opp_opp b c w2, g.opp_opp b c w3]
    cases b <;> cases c <;> simp <;> omega
/-- A not stands before a comparison, or all, alone. -/
def tight : List Term → Prop
  | [] => True
  | [t] => t.op ≠ 3
  | t :: u :: l => (t.op = 3 → u.op = 1 ∨ u.op = 2) ∧ tight (u :: l)
theorem tight_append : ∀ (a b : List Term), tight a → tight b → tight (a ++ b)
  | [], b, _, h => h
  | [t], [], h, _ => by simpa using h
  | [t], u :: l, h, h' => ⟨fun h3 => absurd h3 h, h'⟩
  | t :: u :: a, b, h, h' => ⟨h.1, tight_append (u :: a) b h.2 h'⟩
theorem Fl.opp_tight : ∀ (f : Fl) (b : Bool), f.wf → tight (f.opp b).enc
  | .leaf t, b, w => by
    have := about_op.1 (show about t = 0 from w)
    cases b
    · show t.op ≠ 3; omega
    · exact ⟨fun _ => this, by show t.op ≠ 3; omega⟩
  | .not t f, b, w => f.opp_tight (!b) w.2
  | .two t f g, b, w => by
    obtain ⟨w1, w2, w3⟩ := w
    have ho := (about_op.2.2 w1).1
    refine tight_append [_] _ ?_ (tight_append _ _ (f.opp_tight b w2) (g.opp_tight b w3))
    show (if b = true then 9 - t.op else t.op) ≠ 3
    split <;> omega
theorem tight_at : ∀ (l : List Term) (i : Nat) (hi : i + 1 < l.length), tight l → (l[i]).op = 3 → (l[i + 1]).op = 1 ∨ (l[i + 1]).op = 2
  | [t], i, hi, _, _ => by simp at hi
  | t :: u :: l, 0, _, h, h3 => h.1 h3
  | t :: u :: l, i + 1, hi, h, h3 => tight_at (u :: l) i (by simpa using hi) h.2 h3

theorem without_den : ∀ (f : Fl) (b : Bool), f.wf → f.enc.length ≤ 200 → ∀ h : H, ∃ o, D 24 [TL f.enc, .bool b] h = some (.ret (TL (f.opp b).enc o), h)
  | .leaf t, b, w, hl, h => by
    have ho := about_op.1 (show about t = 0 from w)
    have hnot : mkAgg [.int .i64 0, .int .i64 0, .int .i64 0, .int .i64 0, .str []] [(0, 1, .int .i64 3)] = some (.agg notT.c) := rfl
    have m2 : mkRows 5 [.int .i64 0, .int .i64 0, .int .i64 0, .int .i64 0, .str []] 2 [(0, .agg notT.c), (1, .agg t.c)] = some (.list [notT.c, t.c] .cap) := rfl
    have m1 : mkRows 5 [.int .i64 0, .int .i64 0, .int .i64 0, .int .i64 0, .str []] 1 [(0, .agg t.c)] = some (.list [t.c] .cap) := rfl
    refine ⟨.cap, ask_without.den 0 (by simp [TL]) (h' := []) ?_ (by simp [TL]) rfl⟩
    rw [ask_without.f_eq (ask_without.fx _)]
    have e3 : ¬ t.op = 3 := by omega
    have e4 : ¬ t.op = 4 := by omega
    have e5 : ¬ t.op = 5 := by omega
    cases b <;> simp [TL, Fl.enc, Fl.opp, e3, e4, e5, ask_without.j1_eq (ask_without.fx 0), ask_without.j0_eq (ask_without.fx 0), hnot, m1, m2]
  | .not t f, b, w, hl, h => by
    obtain ⟨w1, w2⟩ := w
    obtain ⟨e3, _⟩ := about_op.2.1 w1
    simp only [Fl.enc, List.length_cons] at hl
    obtain ⟨o, ih⟩ := without_den f (!b) w2 (by omega) []
    refine ⟨o, ask_without.den 0 (by simp [TL]) (h' := []) ?_ (by simp [TL]) rfl⟩
    rw [ask_without.f_eq (ask_without.fx _)]
    have hsl := slSlice_from (k := .i64) (o := .no) (f := Term.c) (l := t :: f.enc) (s := 5) (i := 1) (by simp) Term.c_len
    simp only [List.drop_succ_cons, List.drop_zero, Int.cast_ofNat_Int, List.map_cons] at hsl
    simp [TL] at ih
    simp [TL, Fl.enc, Fl.opp, e3, hsl, ih]
  | .two t f g, b, w, hl, h => by
    obtain ⟨w1, w2, w3⟩ := w
    obtain ⟨ho, _⟩ := about_op.2.2 w1
    simp only [Fl.enc, List.length_cons, List.length_append] at hl
    obtain ⟨o, ih⟩ := without_den f b w2 (by omega) []
    obtain ⟨o', ih'⟩ := without_den g b w3 (by omega) []
    have hp := parts_den (t := t) (p := f.enc) (r := g.enc) (d := f.nest) (tree_tk f _ g.enc w2 (Nat.le_refl _)) (by simp; omega) []
    obtain ⟨x, hx⟩ : ∃ x : Int, x = if b = true then 9 - t.op else t.op := ⟨_, rfl⟩
    have hmk : mkAgg [.int .i64 0, .int .i64 0, .int .i64 0, .int .i64 0, .str []] [(0, 1, .int .i64 x)] = some (.agg (Term.c ⟨x, 0, 0, 0, []⟩)) := rfl
    have m1 : mkRows 5 [.int .i64 0, .int .i64 0, .int .i64 0, .int .i64 0, .str []] 1 [(0, .agg (Term.c ⟨x, 0, 0, 0, []⟩))] = some (.list [Term.c ⟨x, 0, 0, 0, []⟩] .cap) := rfl
    have m3 : mkRows 1 [.list [] .cap] 3 [(0, .list [Term.c ⟨x, 0, 0, 0, []⟩] .cap), (1, TL (f.opp b).enc o), (2, TL (g.opp b).enc o')] = some (.list [[.list [Term.c ⟨x, 0, 0, 0, []⟩] .no], [TL (f.opp b).enc], [TL (g.opp b).enc]] .cap) := rfl
    have hc := Concat_den [[⟨x, 0, 0, 0, []⟩], (f.opp b).enc, (g.opp b).enc] (by have := f.opp_len b; have := g.opp_len b; simp; omega) (by simp) []
    have hj2 : ask_without.j2 (ask_without.JD 0) (TL (Fl.two t f g).enc) (.bool b) (.int .i64 x) [] = some (.ret (TL ((Fl.two t f g).opp b).enc (.own 5)), []) := by
      rw [ask_without.j2_eq (ask_without.fx 0)]
      simp only [TL, LL, List.map_cons, List.map_nil, Fl.enc] at hp ih ih' m3 hc ⊢
      simp only [canon_list, hp, Option.bind_some, retOr_ret, exTuple_eq, List.getElem?_cons_zero, List.getElem?_cons_succ, copy_int, hmk, m1, canon_bool, ih, ih', m3, hc]
      simp [Fl.opp, Fl.enc, ← hx]
    refine ⟨.own 5, ask_without.den 0 (by simp [TL]) (h' := []) ?_ (by simp [TL]) rfl⟩
    rw [ask_without.f_eq (ask_without.fx _)]
    have e3 : ¬ t.op = 3 := by omega
    have w9 : IntKind.wrap .i64 (9 - t.op) = 9 - t.op := wrap_i64 (by omega) (by omega)
    have hj1 : ask_without.j1 (ask_without.JD 0) (TL (Fl.two t f g).enc) (.bool b) (.int .i64 t.op) (.bool true) [] = some (.ret (TL ((Fl.two t f g).opp b).enc (.own 5)), []) := by
      rw [ask_without.j1_eq (ask_without.fx 0)]
      cases b with
      | true => simp only [if_true] at hx; subst hx; simp [w9, hj2]
      | false => simp only [Bool.false_eq_true, if_false] at hx; subst hx; simp [hj2]
    simp only [TL, Fl.enc, List.map_cons] at hj1 ⊢
    rcases ho with e | e
    · simp [e] at hj1
      simp [e3, e, hj1]
    · simp [e] at hj1
      simp [e3, e, hj1]

theorem Not_bad (l : List Term) (hf : filterE l ≠ 0) (h : H) : D 13 [TL l] h = some (.ret (.tuple [.list [] .cap, .int .i64 (filterE l)]), h) := by
  refine ask_Not.den 0 (by simp [TL]) (h' := []) ?_ rfl (by kernel_rfl)
  rw [ask_Not.f_eq (ask_Not.fx _)]
  simp [Filter_den, hf]
theorem Not_den (f : Fl) (w : f.wf) (hf : filterE f.enc = 0) (h : H) : ∃ o, D 13 [TL f.enc] h = some (.ret (.tuple [TL (f.opp true).enc o, .int .i64 0]), h) := by
  have hlen : f.enc.length ≤ 128 := by
    rw [filter_enc w] at hf
    split at hf
    · cases hf
    · omega
  obtain ⟨o, hw⟩ := without_den f true w (by omega) []
  refine ⟨o, ask_Not.den 0 (by simp [TL]) (h' := []) ?_ (by simp [TL]) (by kernel_rfl)⟩
  rw [ask_Not.f_eq (ask_Not.fx _)]
  simp [Filter_den, hf, hw]
end Go.Proofs.Ytigkhjmlomogmaa
