/- What the functions of the filters' layer come to: 4: taking filters. -/
import Derived.Test.YtigkhjmlomogmaaP32S3
set_option linter.all false

open Go Go.Ve Go.Proofs
namespace Go.Proofs.Ytigkhjmlomogmaa
set_option maxRecDepth 100000

theorem term_eq (t u : Term) : aeq Try.prog 20 31 (.agg t.c) (.agg u.c) = some (decide (t = u)) := by
  have h : aeq Try.prog 20 31 (.agg t.c) (.agg u.c) = some (t.op == u.op && (t.field == u.field && (t.rel == u.rel && (t.num == u.num && (t.text == u.text && true))))) := by kernel_rfl
  rw [h]
  obtain ⟨a, b, c, d, e⟩ := t
  obtain ⟨a', b', c', d', e'⟩ := u
  simp only [Term.mk.injEq, Option.some.injEq]
  by_cases h1 : a = a' <;> by_cases h2 : b = b' <;> by_cases h3 : c = c' <;> by_cases h4 : d = d' <;> by_cases h5 : e = e' <;> simp [h1, h2, h3, h4, h5]

/-- All but what it does is zero. -/
def bare (t : Term) : Bool := decide (t = ⟨t.op, 0, 0, 0, []⟩)
/-- How many filters a term is about. -/
def about (t : Term) : Int :=
  if t.op = 2 then (if cmpB t = true then 0 else -1)
  else if bare t = true then (if t.op = 1 then 0 else if t.op = 3 then 1 else if t.op = 4 then 2 else if t.op = 5 then 2 else -1) else -1
theorem about_cases (t : Term) : about t = -1 ∨ about t = 0 ∨ about t = 1 ∨ about t = 2 := by
  unfold about; split <;> (try split) <;> (try split) <;> (try split) <;> (try split) <;> (try split) <;> simp

theorem about_den (t : Term) (h : H) : D 19 [.agg t.c] h = some (.ret (.int .i64 (about t)), h) := by
  have key : ∃ h', ask_about.f (ask_about.JD 0) (.agg t.c) [] = some (.ret (.int .i64 (about t)), h') := by
    rw [ask_about.f_eq (ask_about.fx _)]
    by_cases h1 : t.op = 2
    · refine ⟨[.arr t.c false], ?_⟩
      cases hc : cmpB t <;> simp [h1, about, hc, compares_den]
    · have hmk : mkAgg [.int .i64 0, .int .i64 0, .int .i64 0, .int .i64 0, .str []] [(0, 1, .int .i64 t.op)] = some (.agg (Term.c ⟨t.op, 0, 0, 0, []⟩)) := rfl
      have hb : decide (t = ⟨t.op, 0, 0, 0, []⟩) = bare t := rfl
      refine ⟨[.arr t.c false, .map [(.int .i64 1, .int .i64 0), (.int .i64 3, .int .i64 1), (.int .i64 4, .int .i64 2), (.int .i64 5, .int .i64 2)]], ?_⟩
      have hm : ∀ z, ((lkMap .int (.int .i64 0) [.arr t.c false, .map [(.int .i64 1, .int .i64 0), (.int .i64 3, .int .i64 1), (.int .i64 4, .int .i64 2), (.int .i64 5, .int .i64 2)]] (.map 1) (.int .i64 z) true) = some (.tuple [.int .i64 (if z = 1 then 0 else if z = 3 then 1 else if z = 4 then 2 else if z = 5 then 2 else 0), .bool (decide (z = 1 ∨ z = 3 ∨ z = 4 ∨ z = 5))])) := by
        intro z
        by_cases e1 : z = 1
        · subst e1; rfl
        by_cases e3 : z = 3
        · subst e3; rfl
        by_cases e4 : z = 4
        · subst e4; rfl
        by_cases e5 : z = 5
        · subst e5; rfl
        have f1 : (z == 1) = false := by simpa using e1
        have f3 : (z == 3) = false := by simpa using e3
        have f4 : (z == 4) = false := by simpa using e4
        have f5 : (z == 5) = false := by simpa using e5
        simp [lkMap, isKey, findKey, keyEq, f1, f3, f4, f5, e1, e3, e4, e5]
      have hu : ∀ p9 : AV × H, True := fun _ => trivial
      have u1 : ∀ h1 : H, upMap .int [.arr t.c false, .map []] (.map 1) (.int .i64 1) (.int .i64 0) = some (.undef, [.arr t.c false, .map [(.int .i64 1, .int .i64 0)]]) := fun _ => rfl
      have u2 : upMap .int [.arr t.c false, .map [(.int .i64 1, .int .i64 0)]] (.map 1) (.int .i64 3) (.int .i64 1) = some (.undef, [.arr t.c false, .map [(.int .i64 1, .int .i64 0), (.int .i64 3, .int .i64 1)]]) := rfl
      have u3 : upMap .int [.arr t.c false, .map [(.int .i64 1, .int .i64 0), (.int .i64 3, .int .i64 1)]] (.map 1) (.int .i64 4) (.int .i64 2) = some (.undef, [.arr t.c false, .map [(.int .i64 1, .int .i64 0), (.int .i64 3, .int .i64 1), (.int .i64 4, .int .i64 2)]]) := rfl
      have u4 : upMap .int [.arr t.c false, .map [(.int .i64 1, .int .i64 0), (.int .i64 3, .int .i64 1), (.int .i64 4, .int .i64 2)]] (.map 1) (.int .i64 5) (.int .i64 2) = some (.undef, [.arr t.c false, .map [(.int .i64 1, .int .i64 0), (.int .i64 3, .int .i64 1), (.int .i64 4, .int .i64 2), (.int .i64 5, .int .i64 2)]]) := rfl
      simp [h1, u1 [], u2, u3, u4, hm, hmk, term_eq, hb, ask_about.j0_eq (ask_about.fx 0), eqv, about]
      by_cases e1 : t.op = 1
      · cases bare t <;> simp [e1]
      by_cases e3 : t.op = 3
      · cases bare t <;> simp [e3]
      by_cases e4 : t.op = 4
      · cases bare t <;> simp [e4]
      by_cases e5 : t.op = 5
      · cases bare t <;> simp [e5]
      cases bare t <;> simp [e1, e3, e4, e5]
  obtain ⟨h', hk⟩ := key
  exact ask_about.den 0 rfl hk rfl rfl

/-- The filter with which a list begins: what is left, and how deep it nests. -/
def tk : Nat → List Term → Option (List Term × Int)
  | 0, _ => none
  | _ + 1, [] => none
  | k + 1, t :: ts =>
    if about t = 0 then some (ts, 1)
    else if about t = 1 then (tk k ts).map fun p => (p.1, p.2 + 1)
    else if about t = 2 then (tk k ts).bind fun p => (tk k p.1).map fun q => (q.1, max p.2 q.2 + 1)
    else none

theorem tk_facts : ∀ (k : Nat) (l r : List Term) (d : Int), tk k l = some (r, d) → r.length < l.length ∧ 1 ≤ d ∧ d ≤ l.length - r.length ∧ ∃ p, l = p ++ r
  | 0, _, _, _, h => by simp [tk] at h
  | k + 1, [], _, _, h => by simp [tk] at h
  | k + 1, t :: ts, r, d, h => by
    unfold tk at h
    split at h
    · cases h; simp; exact ⟨by omega, [t], rfl⟩
    · split at h
      · simp only [Option.map_eq_some_iff] at h
        obtain ⟨⟨r1, d1⟩, h1, h2⟩ := h
        cases h2
        obtain ⟨a, b, c, p, e⟩ := tk_facts k ts r1 d1 h1
        refine ⟨by simp; omega, by simp; omega, by simp; omega, t :: p, by simp [e]⟩
      · split at h
        · simp only [Option.bind_eq_some_iff, Option.map_eq_some_iff] at h
          obtain ⟨⟨r1, d1⟩, h1, ⟨r2, d2⟩, h2, h3⟩ := h
          cases h3
          obtain ⟨a, b, c, p, e⟩ := tk_facts k ts r1 d1 h1
          obtain ⟨a', b', c', p', e'⟩ := tk_facts k r1 r2 d2 h2
          refine ⟨by simp; omega, by simp; omega, by simp; omega, t :: (p ++ p'), by rw [e, e']; simp⟩
        · cases h

theorem tk_more : ∀ (k k' : Nat) (l : List Term), l.length ≤ k → l.length ≤ k' → tk k l = tk k' l
  | 0, k', l, h, _ => by
    have : l = [] := List.eq_nil_of_length_eq_zero (by omega)
    subst this
    cases k' <;> rfl
  | k + 1, 0, l, _, h => by
    have : l = [] := List.eq_nil_of_length_eq_zero (by omega)
    subst this
    rfl
  | k + 1, k' + 1, [], _, _ => rfl
  | k + 1, k' + 1, t :: ts, h, h' => by
    simp only [List.length_cons] at h h'
    have e1 := tk_more k k' ts (by omega) (by omega)
    unfold tk
    rw [e1]
    congr 2
    congr 1
    cases hk : tk k' ts with
    | none => rfl
    | some p =>
      obtain ⟨r, d⟩ := p
      have := (tk_facts k' ts r d hk).1
      show (tk k r).map _ = (tk k' r).map _
      rw [tk_more k k' r (by omega) (by omega)]

/-- A taker's memory. -/
def tkH (l : List Term) (deep : Int) : H := [.arr [TL l, .int .i64 deep] false]

theorem take_den : ∀ (k : Nat) (l : List Term) (deep depth : Int), l.length ≤ k → 0 ≤ deep → deep ≤ 1000000000 → 1 ≤ depth → depth + l.length ≤ 1000000000 →
    (∀ r d, tk k l = some (r, d) → D 23 [.ptr 0 0, .int .i64 depth] (tkH l deep) = some (.ret (.bool true), tkH r (max deep (depth + d - 1)))) ∧
    (tk k l = none → ∃ h', D 23 [.ptr 0 0, .int .i64 depth] (tkH l deep) = some (.ret (.bool false), h'))
  | 0, l, deep, depth, hl, _, _, _, _ => by
    have : l = [] := List.eq_nil_of_length_eq_zero (by omega)
    subst this
    refine ⟨fun r d h => by simp [tk] at h, fun _ => ⟨_, ask_taker_take.den 0 (h' := tkH [] deep) ?_ rfl⟩⟩
    rw [ask_taker_take.f_eq (ask_taker_take.fx _)]
    simp [tkH]
  | k + 1, [], deep, depth, hl, _, _, _, _ => by
    refine ⟨fun r d h => by simp [tk] at h, fun _ => ⟨_, ask_taker_take.den 0 (h' := tkH [] deep) ?_ rfl⟩⟩
    rw [ask_taker_take.f_eq (ask_taker_take.fx _)]
    simp [tkH]
  | k + 1, t :: ts, deep, depth, hl, h0, h1, h2, h3 => by
    simp only [List.length_cons] at hl h3
    have hsl := slSlice_from (k := .i64) (o := .no) (f := Term.c) (l := t :: ts) (s := 5) (i := 1) (by simp) Term.c_len
    simp only [List.map_cons, List.drop_succ_cons, List.drop_zero, Int.cast_ofNat_Int] at hsl
    have start : ∀ res, ask_taker_take.l0 (ask_taker_take.JD 3) 3 (.ptr 0 0) (.int .i64 depth) (.int .i64 (about t)) (.int .i64 (about t)) (.int .i64 0) (tkH ts (max deep depth)) = some res → ask_taker_take.f (ask_taker_take.JD 3) (.ptr 0 0) (.int .i64 depth) (tkH (t :: ts) deep) = some res := by
      intro res hres
      rw [ask_taker_take.f_eq (ask_taker_take.fx _)]
      have hmax : maxMinAll true [.int .i64 deep, .int .i64 depth] = some (.int .i64 (max deep depth)) := by
        simp only [maxMinAll, List.foldlM_cons, List.foldlM_nil, maxMin, Option.bind_eq_bind, Option.bind_some, Option.pure_def, if_true]
        congr 2
        rw [Int.max_def]
        split <;> split <;> omega
      have hne : ¬ (ts.length : Int) + 1 = 0 := by omega
      simp [tkH, TL, hne, about_den, hsl, hmax, splice] at hres ⊢
      exact hres
    have ih := take_den k
    have hwd : IntKind.wrap .i64 (depth + 1) = depth + 1 := wrap_i64 (by omega) (by omega)
    rcases about_cases t with ha | ha | ha | ha
    · refine ⟨fun r d h => by simp [tk, ha] at h, fun _ => ⟨tkH ts (max deep depth), ask_taker_take.den 3 (start _ ?_) rfl⟩⟩
      rw [ask_taker_take.l0_eq (ask_taker_take.fx _)]
      simp [ha]
    · refine ⟨fun r d h => ?_, fun h => by simp [tk, ha] at h⟩
      simp only [tk, ha, if_true, Option.some.injEq, Prod.mk.injEq] at h
      obtain ⟨rfl, rfl⟩ := h
      refine ask_taker_take.den 3 (start _ ?_) rfl
      rw [ask_taker_take.l0_eq (ask_taker_take.fx _)]
      simp [ha]
    · obtain ⟨i1, i2⟩ := ih ts (max deep depth) (depth + 1) (by omega) (by omega) (by omega) (by omega) (by omega)
      cases hk : tk k ts with
      | none =>
        obtain ⟨h', hd⟩ := i2 hk
        refine ⟨fun r d h => by simp [tk, ha, hk] at h, fun _ => ⟨h', ask_taker_take.den 3 (start _ ?_) rfl⟩⟩
        rw [ask_taker_take.l0_eq (ask_taker_take.fx _)]
        simp [ha, hwd, hd]
      | some p =>
        obtain ⟨r1, d1⟩ := p
        have hd := i1 r1 d1 hk
        obtain ⟨f1, f2, f3, _⟩ := tk_facts k ts r1 d1 hk
        obtain ⟨m1, hm1⟩ : ∃ m, m = max (max deep depth) (depth + 1 + d1 - 1) := ⟨_, rfl⟩
        rw [← hm1] at hd
        refine ⟨fun r d h => ?_, fun h => by simp [tk, ha, hk] at h⟩
        simp [tk, ha, hk] at h
        obtain ⟨rfl, rfl⟩ := h
        rw [show max deep (depth + (d1 + 1) - 1) = m1 by omega]
        refine ask_taker_take.den 3 (start _ ?_) rfl
        rw [ask_taker_take.l0_eq (ask_taker_take.fx _)]
        have w1 : IntKind.wrap .i64 1 = 1 := rfl
        simp [ha, hwd, hd, ask_taker_take.l0_eq (ask_taker_take.fx 3), w1]
    · obtain ⟨i1, i2⟩ := ih ts (max deep depth) (depth + 1) (by omega) (by omega) (by omega) (by omega) (by omega)
      cases hk : tk k ts with
      | none =>
        obtain ⟨h', hd⟩ := i2 hk
        refine ⟨fun r d h => by simp [tk, ha, hk] at h, fun _ => ⟨h', ask_taker_take.den 3 (start _ ?_) rfl⟩⟩
        rw [ask_taker_take.l0_eq (ask_taker_take.fx _)]
        simp [ha, hwd, hd]
      | some p =>
        obtain ⟨r1, d1⟩ := p
        have hd := i1 r1 d1 hk
        obtain ⟨f1, f2, f3, _⟩ := tk_facts k ts r1 d1 hk
        obtain ⟨m1, hm1⟩ : ∃ m, m = max (max deep depth) (depth + 1 + d1 - 1) := ⟨_, rfl⟩
        rw [← hm1] at hd
        obtain ⟨j1, j2⟩ := ih r1 m1 (depth + 1) (by omega) (by omega) (by omega) (by omega) (by omega)
        have w1 : IntKind.wrap .i64 1 = 1 := rfl
        have w2 : IntKind.wrap .i64 2 = 2 := rfl
        cases hk2 : tk k r1 with
        | none =>
          obtain ⟨h', hd2⟩ := j2 hk2
          refine ⟨fun r d h => by simp [tk, ha, hk, hk2] at h, fun _ => ⟨h', ask_taker_take.den 3 (start _ ?_) rfl⟩⟩
          rw [ask_taker_take.l0_eq (ask_taker_take.fx _)]
          simp [ha, hwd, hd, ask_taker_take.l0_eq (ask_taker_take.fx 3), w1, hd2]
        | some q =>
          obtain ⟨r2, d2⟩ := q
          have hd2 := j1 r2 d2 hk2
          obtain ⟨m2, hm2⟩ : ∃ m, m = max m1 (depth + 1 + d2 - 1) := ⟨_, rfl⟩
          rw [← hm2] at hd2
          obtain ⟨g1, g2, g3, _⟩ := tk_facts k r1 r2 d2 hk2
          refine ⟨fun r d h => ?_, fun h => by simp [tk, ha, hk, hk2] at h⟩
          simp [tk, ha, hk, hk2] at h
          obtain ⟨rfl, rfl⟩ := h
          rw [show max deep (depth + (max d1 d2 + 1) - 1) = m2 by omega]
          refine ask_taker_take.den 3 (start _ ?_) rfl
          rw [ask_taker_take.l0_eq (ask_taker_take.fx _)]
          simp [ha, hwd, hd, ask_taker_take.l0_eq (ask_taker_take.fx 3), w1, w2, hd2]
end Go.Proofs.Ytigkhjmlomogmaa
