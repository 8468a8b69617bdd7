/- What the functions of the filters' layer come to: 5: filters, their parts, their opposites. -/
import Derived.Test.YtigkhjmlomogmaaP32S4
set_option linter.all false

open Go Go.Ve Go.Proofs
namespace Go.Proofs.Ytigkhjmlomogmaa
set_option maxRecDepth 100000

/-- A filter, as a tree. -/
inductive Fl where
  | leaf (t : Term)
  | not (t : Term) (f : Fl)
  | two (t : Term) (f g : Fl)
def Fl.wf : Fl → Prop
  | .leaf t => about t = 0
  | .not t f => about t = 1 ∧ f.wf
  | .two t f g => about t = 2 ∧ f.wf ∧ g.wf
def Fl.enc : Fl → List Term
  | .leaf t => [t]
  | .not t f => t :: f.enc
  | .two t f g => t :: (f.enc ++ g.enc)
def Fl.nest : Fl → Int
  | .leaf _ => 1
  | .not _ f => f.nest + 1
  | .two _ f g => max f.nest g.nest + 1
theorem Fl.nest_pos : ∀ f : Fl, 1 ≤ f.nest
  | .leaf _ => by simp [nest]
  | .not _ f => by have := f.nest_pos; simp only [nest]; omega
  | .two _ f g => by have := f.nest_pos; simp only [nest]; omega
theorem Fl.enc_pos : ∀ f : Fl, 0 < f.enc.length
  | .leaf _ | .not _ _ | .two _ _ _ => by simp [enc]
theorem Fl.nest_le : ∀ f : Fl, f.nest ≤ f.enc.length
  | .leaf _ => by simp [nest, enc]
  | .not _ f => by have := f.nest_le; simp only [nest, enc, List.length_cons]; omega
  | .two _ f g => by have := f.nest_le; have := g.nest_le; simp only [nest, enc, List.length_cons, List.length_append]; omega

theorem tk_tree : ∀ (k : Nat) (l r : List Term) (d : Int), tk k l = some (r, d) → ∃ f : Fl, f.wf ∧ l = f.enc ++ r ∧ d = f.nest
  | 0, _, _, _, h => by simp [tk] at h
  | k + 1, [], _, _, h => by simp [tk] at h
  | k + 1, t :: ts, r, d, h => by
    unfold tk at h
    split at h
    · rename_i ha
      cases h
      exact ⟨.leaf t, ha, rfl, rfl⟩
    · split at h
      · rename_i ha
        simp only [Option.map_eq_some_iff] at h
        obtain ⟨⟨r1, d1⟩, h1, h2⟩ := h
        cases h2
        obtain ⟨f, w, e1, e2⟩ := tk_tree k ts r1 d1 h1
        exact ⟨.not t f, ⟨ha, w⟩, by simp [Fl.enc, e1], by simp [Fl.nest, e2]⟩
      · split at h
        · rename_i ha
          simp only [Option.bind_eq_some_iff, Option.map_eq_some_iff] at h
          obtain ⟨⟨r1, d1⟩, h1, ⟨r2, d2⟩, h2, h3⟩ := h
          cases h3
          obtain ⟨f, w, e1, e2⟩ := tk_tree k ts r1 d1 h1
          obtain ⟨g, w', e1', e2'⟩ := tk_tree k r1 r2 d2 h2
          exact ⟨.two t f g, ⟨ha, w, w'⟩, by rw [e1, e1']; simp [Fl.enc], by simp [Fl.nest, e2, e2']⟩
        · cases h

theorem tree_tk : ∀ (f : Fl) (k : Nat) (r : List Term), f.wf → (f.enc ++ r).length ≤ k → tk k (f.enc ++ r) = some (r, f.nest)
  | .leaf t, 0, r, _, h => by simp [Fl.enc] at h
  | .not t f, 0, r, _, h => by simp [Fl.enc] at h
  | .two t f g, 0, r, _, h => by simp [Fl.enc] at h
  | .leaf t, k + 1, r, w, _ => by
    have w : about t = 0 := w
    simp [Fl.enc, Fl.nest, tk, w]
  | .not t f, k + 1, r, w, h => by
    obtain ⟨w1, w2⟩ := w
    have ih := tree_tk f k r w2 (by simp [Fl.enc] at h ⊢; omega)
    simp [Fl.enc, Fl.nest, tk, w1, ih]
  | .two t f g, k + 1, r, w, h => by
    obtain ⟨w1, w2, w3⟩ := w
    have ih := tree_tk f k (g.enc ++ r) w2 (by simp [Fl.enc] at h ⊢; omega)
    have ih2 := tree_tk g k r w3 (by simp [Fl.enc] at h ⊢; omega)
    simp [Fl.enc, Fl.nest, tk, w1, ih, ih2]

/-- What is wrong with a list of terms. -/
def filterE (l : List Term) : Int :=
  if 128 < l.length then 3 else
    match tk l.length l with
    | some (r, d) => if r.length ≠ 0 then 320 else if 32 < d then 3 else 0
    | none => 320
theorem filter_ok {l : List Term} (h : filterE l = 0) : ∃ f : Fl, f.wf ∧ l = f.enc ∧ f.nest ≤ 32 ∧ f.enc.length ≤ 128 := by
  unfold filterE at h
  split at h
  · cases h
  · rename_i hl
    split at h
    · rename_i r d htk
      split at h
      · cases h
      · rename_i hr
        split at h
        · cases h
        · rename_i hd
          obtain ⟨f, w, e1, e2⟩ := tk_tree _ _ _ _ htk
          have hr0 : r = [] := List.eq_nil_of_length_eq_zero (by omega)
          subst hr0
          rw [List.append_nil] at e1
          exact ⟨f, w, e1, by omega, by rw [← e1]; omega⟩
    · cases h
theorem filter_enc {f : Fl} (w : f.wf) : filterE f.enc = if 128 < f.enc.length then 3 else if 32 < f.nest then 3 else 0 := by
  have := tree_tk f f.enc.length [] w (by simp)
  rw [List.append_nil] at this
  unfold filterE
  rw [this]
  simp

theorem tkH_new (l : List Term) (deep : Int) : [AObj.arr [TL l, .int .i64 deep] false] = tkH l deep := rfl
theorem Filter_den (l : List Term) (h : H) : D 12 [TL l] h = some (.ret (.int .i64 (filterE l)), h) := by
  have key : ∃ h', ask_Filter.f (ask_Filter.JD 0) (TL l) [] = some (.ret (.int .i64 (filterE l)), h') := by
    rw [ask_Filter.f_eq (ask_Filter.fx _)]
    by_cases hl : 128 < l.length
    · have : (128 : Int) < l.length := by omega
      exact ⟨[], by simp [this, filterE, hl]⟩
    · have hl' : ¬ (128 : Int) < l.length := by omega
      obtain ⟨t1, t2⟩ := take_den l.length l 0 1 (Nat.le_refl _) (by omega) (by omega) (by omega) (by omega)
      have hmk : mkAgg [.list [] .cap, .int .i64 0] [(0, 1, TL l)] = some (.agg [TL l, .int .i64 0]) := rfl
      cases htk : tk l.length l with
      | none =>
        obtain ⟨h', hd⟩ := t2 htk
        exact ⟨h', by simp [hl', hmk, filterE, hl, htk, tkH_new, hd, ask_Filter.j0_eq (ask_Filter.fx 0)]⟩
      | some p =>
        obtain ⟨r, d⟩ := p
        have hd := t1 r d htk
        have hp := (tk_facts _ _ _ _ htk).2.1
        rw [show max (0 : Int) (1 + d - 1) = d by omega] at hd
        refine ⟨tkH r d, ?_⟩
        by_cases hr : r.length = 0
        · have : r = [] := List.eq_nil_of_length_eq_zero hr
          subst this
          by_cases hd32 : 32 < d <;> simp [hl', hmk, filterE, hl, htk, tkH_new, hd, ask_Filter.j0_eq (ask_Filter.fx 0), hd32] <;> simp [tkH, hd32]
        · have hr' : 0 < (r.length : Int) := by omega
          have hne : r ≠ [] := by rintro rfl; simp at hr
          simp [hl', hmk, filterE, hl, htk, tkH_new, hd, ask_Filter.j0_eq (ask_Filter.fx 0), hne]
          simp [tkH, hne, ask_Filter.j0_eq (ask_Filter.fx 0), List.length_pos_iff]
  obtain ⟨h', hk⟩ := key
  exact ask_Filter.den 0 (by simp) hk rfl rfl

theorem parts_den {t : Term} {p r : List Term} {d : Int} (htk : tk (p ++ r).length (p ++ r) = some (r, d)) (hl : (p ++ r).length ≤ 1000) (h : H) : D 20 [TL (t :: (p ++ r))] h = some (.ret (.tuple [TL p .cap, TL r]), h) := by
  obtain ⟨t1, _⟩ := take_den _ (p ++ r) 0 1 (Nat.le_refl _) (by omega) (by omega) (by omega) (by omega)
  have hd := t1 r d htk
  have hsl := slSlice_from (k := .i64) (o := .no) (f := Term.c) (l := t :: (p ++ r)) (s := 5) (i := 1) (by simp) Term.c_len
  have hsl2 := slSlice_from (k := .i64) (o := .no) (f := Term.c) (l := t :: (p ++ r)) (s := 5) (i := p.length + 1) (by simp) Term.c_len
  have hsl3 := slSlice_full (k := .i64) (k' := .i64) (o := .no) (f := Term.c) (l := t :: (p ++ r)) (s := 5) (i := 1) (j := p.length + 1) (by omega) (by simp) Term.c_len
  have hmk : ∀ o, mkAgg [.list [] .cap, .int .i64 0] [(0, 1, .list ((p ++ r).map Term.c) o)] = some (.agg [.list ((p ++ r).map Term.c) o, .int .i64 0]) := fun _ => rfl
  simp only [List.drop_succ_cons, List.drop_zero, Int.cast_ofNat_Int, List.take_succ_cons, List.take_left, List.drop_left, Int.natCast_add] at hsl hsl2 hsl3
  have hw : IntKind.wrap .i64 ((p.length : Int) + r.length + 1 - r.length) = p.length + 1 := by
    rw [wrap_i64 (by simp at hl; omega) (by simp at hl; omega)]; omega
  refine ask_parts.den 0 (by simp [TL]) (h' := tkH r (max 0 (1 + d - 1))) ?_ ?_ (by kernel_rfl)
  · rw [ask_parts.f_eq (ask_parts.fx _)]
    simp only [TL] at hd hsl hsl2 hsl3 hmk ⊢
    rw [hsl]
    simp only [Option.bind_some, copy_no, hmk, bx_agg (show [AV.list ((p ++ r).map Term.c) .no, .int .i64 0].all AV.one = true from rfl), List.length_nil, List.nil_append, canon_ptr, canon_int]
    rw [show [AObj.arr [AV.list ((p ++ r).map Term.c) .no, .int .i64 0] false] = tkH (p ++ r) 0 from rfl, hd]
    simp only [Option.bind_some, retOr_ret, lnSl_list, nilOk_ptr, fAddr_ptr, tkH, ldCell_ptr, Nat.reduceAdd, List.getElem?_cons_zero, objCell_arr, List.length_map, List.length_cons, List.length_append, bin_sub, Int.natCast_add, Int.cast_ofNat_Int]
    rw [hw, hsl3]
    simp only [Option.bind_some, hsl2, copy_no, copy_cap]
  · simp [TL]
theorem clone_den (l : List Term) (hl : l.length ≤ 1000) (h : H) : D 21 [TL l] h = some (.ret (TL l (.own 5)), h) := by
  refine den_ext (e := cloneE 5 48) (by kernel_rfl) ?_
  have : (l.map Term.c).all (·.length == 5) = true := by simp
  simp only [cloneE, this, List.length_map, true_and]
  rw [if_pos ⟨by omega, by omega⟩]

theorem filter_cons {l : List Term} (h : filterE l = 0) : ∃ t ts, l = t :: ts := by
  obtain ⟨f, _, rfl, _, _⟩ := filter_ok h
  cases f with
  | leaf t => exact ⟨_, _, rfl⟩
  | not t f => exact ⟨_, _, rfl⟩
  | two t f g => exact ⟨_, _, rfl⟩

/-- What the first term of a filter is about. -/
def Fl.parts : Fl → List Term × List Term × Bool
  | .leaf _ => ([], [], false)
  | .not _ f => (f.enc, [], true)
  | .two _ f g => (f.enc, g.enc, true)

theorem Parts_bad (l : List Term) (hf : filterE l ≠ 0) (h : H) : D 8 [TL l] h = some (.ret (.tuple [.list [] .cap, .list [] .cap, .bool false]), h) := by
  refine ask_Parts.den 0 (by simp [TL]) (h' := []) ?_ rfl (by kernel_rfl)
  rw [ask_Parts.f_eq (ask_Parts.fx _)]
  simp [TL, Filter_den, hf, ask_Parts.j1_eq (ask_Parts.fx 0)]
theorem Parts_den (f : Fl) (w : f.wf) (hf : filterE f.enc = 0) (h : H) : ∃ o o', D 8 [TL f.enc] h = some (.ret (.tuple [TL f.parts.1 o, TL f.parts.2.1 o', .bool f.parts.2.2]), h) := by
  have hlen : f.enc.length ≤ 128 := by
    rw [filter_enc w] at hf
    split at hf
    · cases hf
    · omega
  have go : ∀ (o o' : Own) (hx : ∃ h', ask_Parts.f (ask_Parts.JD 0) (TL f.enc) [] = some (.ret (.tuple [TL f.parts.1 o, TL f.parts.2.1 o', .bool f.parts.2.2]), h')), ∃ o o', D 8 [TL f.enc] h = some (.ret (.tuple [TL f.parts.1 o, TL f.parts.2.1 o', .bool f.parts.2.2]), h) := by
    rintro o o' ⟨h', hx⟩
    exact ⟨o, o', ask_Parts.den 0 (by simp [TL]) hx (by simp [TL]) (by kernel_rfl)⟩
  cases f with
  | leaf t =>
    have w : about t = 0 := w
    refine go .cap .cap ⟨[], ?_⟩
    rw [ask_Parts.f_eq (ask_Parts.fx _)]
    simp only [Fl.enc] at hf
    have := Filter_den [t] []
    rw [hf] at this
    simp [TL, Fl.enc, Fl.parts, about_den, w, ask_Parts.j1_eq (ask_Parts.fx 0)] at this ⊢
    simp [this, about_den, w, ask_Parts.j1_eq (ask_Parts.fx 0)]
  | not t f =>
    obtain ⟨w1, w2⟩ := w
    refine go (.own 5) (.own 5) ⟨[], ?_⟩
    rw [ask_Parts.f_eq (ask_Parts.fx _)]
    have h12 := Filter_den (t :: f.enc) []
    have hf' : filterE (t :: f.enc) = 0 := hf
    rw [hf'] at h12
    simp only [Fl.enc, List.length_cons] at hlen
    have hp := parts_den (t := t) (p := f.enc) (r := []) (d := f.nest) (tree_tk f _ [] w2 (Nat.le_refl _)) (by simp; omega) []
    have c1 := clone_den f.enc (by omega) []
    have c2 := clone_den [] (by simp) []
    simp [TL, Fl.enc, Fl.parts] at h12 hp c1 c2 ⊢
    simp [h12, about_den, w1, ask_Parts.j1_eq (ask_Parts.fx 0), ask_Parts.j0_eq (ask_Parts.fx 0), hp, c1, c2]
  | two t f g =>
    obtain ⟨w1, w2, w3⟩ := w
    refine go (.own 5) (.own 5) ⟨[], ?_⟩
    rw [ask_Parts.f_eq (ask_Parts.fx _)]
    have h12 := Filter_den (t :: (f.enc ++ g.enc)) []
    have hf' : filterE (t :: (f.enc ++ g.enc)) = 0 := hf
    rw [hf'] at h12
    simp only [Fl.enc, List.length_cons, List.length_append] at hlen
    have hp := parts_den (t := t) (p := f.enc) (r := g.enc) (d := f.nest) (tree_tk f _ g.enc w2 (Nat.le_refl _)) (by simp; omega) []
    have c1 := clone_den f.enc (by omega) []
    have c2 := clone_den g.enc (by omega) []
    simp [TL, Fl.enc, Fl.parts] at h12 hp c1 c2 ⊢
    simp [h12, about_den, w1, ask_Parts.j1_eq (ask_Parts.fx 0), ask_Parts.j0_eq (ask_Parts.fx 0), hp, c1, c2]
end Go.Proofs.Ytigkhjmlomogmaa
