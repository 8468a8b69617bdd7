/- What the document's functions of the filters' layer come to: 2. -/
import Derived.Test.YtigkhjmlomogmaaP32S7
set_option linter.all false

open Go Go.Ve Go.Proofs
namespace Go.Proofs.Ytigkhjmlomogmaa
set_option maxRecDepth 100000

/-- Texts are not endless. -/
def Sm (l : List Term) : Prop := ∀ t ∈ l, t.text.length ≤ 9223372036854775806
theorem Sm.tail {t : Term} {l : List Term} (h : Sm (t :: l)) : Sm l := fun u hu => h u (by simp [hu])
theorem Sm.right {a b : List Term} (h : Sm (a ++ b)) : Sm b := fun u hu => h u (by simp [hu])
theorem Sm.left {a b : List Term} (h : Sm (a ++ b)) : Sm a := fun u hu => h u (by simp [hu])

theorem about_zero {t : Term} (h : about t = 0) : cmpB t = true ∨ (t.op = 1 ∧ bare t = true) := by
  unfold about at h
  split at h
  · split at h
    · rename_i h1; exact .inl h1
    · cases h
  · split at h
    · rename_i h1
      split at h
      · rename_i h2; exact .inr ⟨h2, h1⟩
      · split at h
        · cases h
        · split at h
          · cases h
          · split at h <;> cases h
    · cases h
theorem cmpB_op {t : Term} (h : cmpB t = true) : t.op = 2 := by
  simp only [cmpB, Bool.and_eq_true, decide_eq_true_eq] at h
  exact h.1.1.1.1.1.1.1.1

/-- How many terms a list begins with, and how deep they nest. -/
def tkN (l : List Term) : Int := match tk l.length l with | some (r, _) => l.length - r.length | none => 0
def tkD (l : List Term) : Int := match tk l.length l with | some (_, d) => d | none => 0

set_option linter.all false
theorem refTake_den : ∀ (k : Nat) (l : List Term), l.length ≤ k → l.length ≤ 1000 → Sm l → ∀ h : H, D 22 [TL l] h = some (.ret (.tuple [.int .i64 (tkN l), .int .i64 (tkD l)]), h)
  | k, [], _, _, _, h => by
    refine warrantorref32_Take.den 0 rfl (h' := []) ?_ rfl (by kernel_rfl)
    generalize warrantorref32_Take.JD 0 = J, warrantorref32_Take.fx 0 = hJ
    rw [warrantorref32_Take.f_eq hJ]
    simp [tkN, tkD, tk]
  | 0, t :: ts, hl, _, _, _ => by simp at hl
  | k + 1, t :: ts, hl, hb, hs, h => by
    simp only [List.length_cons] at hl hb
    have ih := refTake_den k
    have d28 := fun h => refCmp_den t (hs t (by simp)) h
    have hre : ∀ v, (∀ {J : Jn (AEnd × H)} (hJ : warrantorref32_Take.F D 3 J), warrantorref32_Take.f J (TL (t :: ts)) [] = some (.ret v, [])) → v.pure = true → retOk Try.f22 (.ret v) = true → D 22 [TL (t :: ts)] h = some (.ret v, h) :=
      fun v hv h1 h2 => warrantorref32_Take.den 3 (by simp) (hv (warrantorref32_Take.fx 3)) h1 h2
    have htk : tk (t :: ts).length (t :: ts) = tk (ts.length + 1) (t :: ts) := rfl
    -- from the loop's head on
    have loop0 : ∀ {J : Jn (AEnd × H)} (hJ : warrantorref32_Take.F D 3 J) (x : Int), warrantorref32_Take.j0 J (TL (t :: ts)) (.int .i64 x) [] = if x = 0 then some (.ret (.tuple [.int .i64 0, .int .i64 0]), []) else warrantorref32_Take.l0 J 3 (TL (t :: ts)) (.int .i64 x) (.int .i64 1) (.int .i64 0) (.int .i64 0) [] := by
      intro J hJ x
      rw [warrantorref32_Take.j0_eq hJ]
      by_cases hx : x = 0 <;> simp [hx]
    have hz : ¬ ((ts.length : Int) + 1 = 0) := by omega
    have w1 : IntKind.wrap .i64 1 = 1 := rfl
    have w2 : IntKind.wrap .i64 2 = 2 := rfl
    have hsl1 := slSlice_from (k := .i64) (o := .no) (f := Term.c) (l := t :: ts) (s := 5) (i := 1) (by simp) Term.c_len
    simp only [List.drop_succ_cons, List.drop_zero, Int.cast_ofNat_Int, List.map_cons] at hsl1
    have i1 := ih ts (by omega) (by omega) hs.tail []
    rcases about_cases t with ha | ha | ha | ha
    · -- nothing begins so
      have hN : tkN (t :: ts) = 0 := by simp [tkN, htk, tk, ha]
      have hD : tkD (t :: ts) = 0 := by simp [tkD, htk, tk, ha]
      rw [hN, hD]
      refine hre _ (fun hJ => ?_) rfl (by kernel_rfl)
      rw [warrantorref32_Take.f_eq hJ]
      have hc : cmpB t = false := by
        cases hc : cmpB t with
        | false => rfl
        | true => have := cmpB_op hc; simp [about, this, hc] at ha
      have hb2 : bare t = true → t.op ≠ 1 ∧ t.op ≠ 3 ∧ t.op ≠ 4 ∧ t.op ≠ 5 := by
        intro hb
        refine ⟨?_, ?_, ?_, ?_⟩ <;> (intro h; simp [about, h, hb] at ha)
      have j0 := loop0 hJ 0
      simp only [TL, List.map_cons] at j0
      cases hbr : bare t with
      | true =>
        obtain ⟨b1, b3, b4, b5⟩ := hb2 hbr
        simp [TL, hz, warrantorref32_Take.j1_eq hJ, warrantorref32_Take.j2_eq hJ, warrantorref32_Take.j3_eq hJ, d28, hc, b1, b3, b4, b5, j0]
      | false =>
        by_cases o1 : t.op = 1
        · simp [TL, hz, warrantorref32_Take.j1_eq hJ, warrantorref32_Take.j2_eq hJ, warrantorref32_Take.j3_eq hJ, d28, hc, o1, refPlain_den, hbr, j0]
        by_cases o3 : t.op = 3
        · simp [TL, hz, warrantorref32_Take.j1_eq hJ, warrantorref32_Take.j2_eq hJ, warrantorref32_Take.j3_eq hJ, d28, hc, o3, refPlain_den, hbr, j0]
        by_cases o4 : t.op = 4
        · simp [TL, hz, warrantorref32_Take.j1_eq hJ, warrantorref32_Take.j2_eq hJ, warrantorref32_Take.j3_eq hJ, d28, hc, o4, refPlain_den, hbr, j0]
        by_cases o5 : t.op = 5
        · simp [TL, hz, warrantorref32_Take.j1_eq hJ, warrantorref32_Take.j2_eq hJ, warrantorref32_Take.j3_eq hJ, d28, hc, o5, refPlain_den, hbr, j0]
        simp [TL, hz, warrantorref32_Take.j1_eq hJ, warrantorref32_Take.j2_eq hJ, warrantorref32_Take.j3_eq hJ, d28, hc, o1, o3, o4, o5, j0]
    · -- a leaf
      have hN : tkN (t :: ts) = 1 := by simp [tkN, htk, tk, ha]; omega
      have hD : tkD (t :: ts) = 1 := by simp [tkD, htk, tk, ha]
      rw [hN, hD]
      refine hre _ (fun hJ => ?_) rfl (by kernel_rfl)
      rw [warrantorref32_Take.f_eq hJ]
      rcases about_zero ha with hc | ⟨o1, hb1⟩
      · simp [TL, hz, warrantorref32_Take.j1_eq hJ, d28, hc]
      · have hc : cmpB t = false := by
          cases hc : cmpB t with
          | false => rfl
          | true => have := cmpB_op hc; omega
        simp [TL, hz, warrantorref32_Take.j1_eq hJ, warrantorref32_Take.j2_eq hJ, warrantorref32_Take.j3_eq hJ, d28, hc, o1, refPlain_den, hb1]
    · -- a not
      obtain ⟨o3, e3⟩ := about_op.2.1 ha
      have hc : cmpB t = false := by
        cases hc : cmpB t with
        | false => rfl
        | true => have := cmpB_op hc; omega
      have hb1 : bare t = true := by rw [e3]; rfl
      have hN : tkN (t :: ts) = if tkN ts = 0 then 0 else 1 + tkN ts := by
        cases hk : tk ts.length ts with
        | none => simp [tkN, htk, tk, ha, hk]
        | some p =>
          obtain ⟨r, d⟩ := p
          have := tk_facts _ _ _ _ hk
          simp [tkN, htk, tk, ha, hk]
          omega
      have hD : tkD (t :: ts) = if tkN ts = 0 then 0 else tkD ts + 1 := by
        cases hk : tk ts.length ts with
        | none => simp [tkN, tkD, htk, tk, ha, hk]
        | some p =>
          obtain ⟨r, d⟩ := p
          have := tk_facts _ _ _ _ hk
          simp [tkN, tkD, htk, tk, ha, hk]
          omega
      rw [hN, hD]
      refine hre _ (fun hJ => ?_) rfl (by kernel_rfl)
      rw [warrantorref32_Take.f_eq hJ]
      have j0 := loop0 hJ 1
      have hb3 : tkN ts ≤ 1000 ∧ 0 ≤ tkN ts ∧ 0 ≤ tkD ts ∧ tkD ts ≤ 1000 := by
        unfold tkN tkD
        cases hk : tk ts.length ts with
        | none => simp
        | some p => obtain ⟨r, d⟩ := p; have := tk_facts _ _ _ _ hk; simp only; omega
      have w3 : IntKind.wrap .i64 (1 + tkN ts) = 1 + tkN ts := wrap_i64 (by omega) (by omega)
      have w4 : IntKind.wrap .i64 (tkD ts + 1) = tkD ts + 1 := wrap_i64 (by omega) (by omega)
      simp only [TL, List.map_cons] at j0 i1
      have w5 : IntKind.wrap .i64 (0 + 1) = 1 := rfl
      simp only [Int.reduceEq, if_false] at j0
      by_cases hn : tkN ts = 0
      · simp [TL, hz, warrantorref32_Take.j1_eq hJ, warrantorref32_Take.j2_eq hJ, warrantorref32_Take.j3_eq hJ, d28, hc, o3, refPlain_den, hb1, j0, warrantorref32_Take.l0_eq hJ, hsl1, i1, hn]
      · by_cases hd : tkD ts > 0
        · simp [TL, hz, warrantorref32_Take.j1_eq hJ, warrantorref32_Take.j2_eq hJ, warrantorref32_Take.j3_eq hJ, d28, hc, o3, refPlain_den, hb1, j0, warrantorref32_Take.l0_eq hJ, hsl1, i1, hn, w1, w3, w4, hd]
        · have : tkD ts = 0 := by omega
          simp [TL, hz, warrantorref32_Take.j1_eq hJ, warrantorref32_Take.j2_eq hJ, warrantorref32_Take.j3_eq hJ, d28, hc, o3, refPlain_den, hb1, j0, warrantorref32_Take.l0_eq hJ, hsl1, i1, hn, w1, w3, this]
    · -- and, or
      obtain ⟨o45, e45⟩ := about_op.2.2 ha
      have hc : cmpB t = false := by
        cases hc : cmpB t with
        | false => rfl
        | true => have := cmpB_op hc; omega
      have hb1 : bare t = true := by rw [e45]; simp [bare]
      have hj3 : ∀ {J : Jn (AEnd × H)} (hJ : warrantorref32_Take.F D 3 J) res, warrantorref32_Take.l0 J 3 (TL (t :: ts)) (.int .i64 2) (.int .i64 1) (.int .i64 0) (.int .i64 0) [] = res → warrantorref32_Take.f J (TL (t :: ts)) [] = res := by
        intro J hJ res hres
        rw [warrantorref32_Take.f_eq hJ]
        have j0 := loop0 hJ 2
        simp only [TL, List.map_cons, Int.reduceEq, if_false] at j0 hres
        rcases o45 with o | o
        · simp [TL, hz, warrantorref32_Take.j1_eq hJ, warrantorref32_Take.j2_eq hJ, warrantorref32_Take.j3_eq hJ, d28, hc, o, refPlain_den, hb1, j0, hres]
        · simp [TL, hz, warrantorref32_Take.j1_eq hJ, warrantorref32_Take.j2_eq hJ, warrantorref32_Take.j3_eq hJ, d28, hc, o, refPlain_den, hb1, j0, hres]
      cases hk : tk ts.length ts with
      | none =>
        have hN : tkN (t :: ts) = 0 := by simp [tkN, htk, tk, ha, hk]
        have hD : tkD (t :: ts) = 0 := by simp [tkD, htk, tk, ha, hk]
        rw [hN, hD]
        refine hre _ (fun hJ => hj3 hJ _ ?_) rfl (by kernel_rfl)
        have n0 : tkN ts = 0 := by simp [tkN, hk]
        rw [warrantorref32_Take.l0_eq hJ]
        simp only [TL, List.map_cons] at i1
        simp [TL, hsl1, i1, n0]
      | some p =>
        obtain ⟨r, d⟩ := p
        obtain ⟨f1, f2, f3, pp, fe⟩ := tk_facts _ _ _ _ hk
        have n1 : tkN ts = ts.length - r.length := by simp [tkN, hk]
        have d1 : tkD ts = d := by simp [tkD, hk]
        rw [n1, d1] at i1
        have hlen : (ts.length : Int) - r.length = pp.length := by rw [fe]; simp
        rw [hlen] at i1
        have hsm : Sm r := by have := hs.tail; rw [fe] at this; exact this.right
        have i2 := ih r (by omega) (by omega) hsm []
        have hsl2 := slSlice_from (k := .i64) (o := .no) (f := Term.c) (l := t :: ts) (s := 5) (i := pp.length + 1) (by rw [fe]; simp) Term.c_len
        have hdr : (t :: ts).drop (pp.length + 1) = r := by rw [fe]; simp
        rw [hdr] at hsl2
        simp only [List.map_cons, Int.natCast_add, Int.cast_ofNat_Int] at hsl2
        have w3 : IntKind.wrap .i64 (1 + (pp.length : Int)) = pp.length + 1 := by rw [wrap_i64 (by omega) (by omega)]; omega
        have pp0 : ¬ (pp.length : Int) = 0 := by omega
        have pn : pp ≠ [] := by rintro rfl; simp at pp0
        cases hk2 : tk r.length r with
        | none =>
          have n2 : tkN r = 0 := by simp [tkN, hk2]
          have hk2' : tk ts.length r = none := by rw [tk_more _ r.length r (by omega) (Nat.le_refl _), hk2]
          have hN : tkN (t :: ts) = 0 := by simp [tkN, htk, tk, ha, hk, hk2']
          have hD : tkD (t :: ts) = 0 := by simp [tkD, htk, tk, ha, hk, hk2']
          rw [hN, hD]
          refine hre _ (fun hJ => hj3 hJ _ ?_) rfl (by kernel_rfl)
          rw [warrantorref32_Take.l0_eq hJ]
          simp only [TL, List.map_cons] at i1 i2
          rw [n2] at i2
          simp [TL, hsl1, i1, pp0, w3, f2, show (0 : Int) < d by omega, w1, warrantorref32_Take.l0_eq hJ, hsl2, i2, pn]
        | some q =>
          obtain ⟨r2, d2⟩ := q
          obtain ⟨g1, g2, g3, qq, ge⟩ := tk_facts _ _ _ _ hk2
          have rl : (r.length : Int) - r2.length = qq.length := by rw [ge]; simp
          have n2 : tkN r = qq.length := by simp only [tkN, hk2]; exact rl
          have e2 : tkD r = d2 := by simp [tkD, hk2]
          have hk2' : tk ts.length r = some (r2, d2) := by rw [tk_more _ r.length r (by omega) (Nat.le_refl _), hk2]
          have hN : tkN (t :: ts) = pp.length + 1 + qq.length := by
            have e0 : tk (t :: ts).length (t :: ts) = some (r2, max d d2 + 1) := by simp [htk, tk, ha, hk, hk2']
            have e1 : tkN (t :: ts) = ((t :: ts).length : Int) - r2.length := by simp only [tkN, e0]
            rw [e1, List.length_cons]
            clear i1 i2 w3 hsl1 hsl2
            omega
          have hD : tkD (t :: ts) = max d d2 + 1 := by simp [tkD, htk, tk, ha, hk, hk2']
          rw [hN, hD]
          refine hre _ (fun hJ => hj3 hJ _ ?_) rfl (by kernel_rfl)
          rw [warrantorref32_Take.l0_eq hJ]
          simp only [TL, List.map_cons] at i1 i2
          rw [n2, e2] at i2
          have q0 : ¬ (qq.length : Int) = 0 := by omega
          have qn : qq ≠ [] := by rintro rfl; simp at q0
          have ql : (pp.length : Int) + 1 + qq.length ≤ 2000 := by omega
          have w4 : IntKind.wrap .i64 ((pp.length : Int) + 1 + qq.length) = pp.length + 1 + qq.length := wrap_i64 (by omega) (by omega)
          by_cases hdd : d < d2
          · have w5 : IntKind.wrap .i64 (d2 + 1) = d2 + 1 := wrap_i64 (by omega) (by omega)
            rw [show max d d2 = d2 by omega]
            simp [TL, hsl1, i1, pp0, w3, f2, show (0 : Int) < d by omega, w1, w2, warrantorref32_Take.l0_eq hJ, hsl2, i2, q0, qn, pn, w4, hdd, w5]
          · have w5 : IntKind.wrap .i64 (d + 1) = d + 1 := wrap_i64 (by omega) (by omega)
            rw [show max d d2 = d by omega]
            simp [TL, hsl1, i1, pp0, w3, f2, show (0 : Int) < d by omega, w1, w2, warrantorref32_Take.l0_eq hJ, hsl2, i2, q0, qn, pn, w4, hdd, w5]

theorem refFilter_den (l : List Term) (hl : l.length ≤ 1000) (hs : Sm l) (h : H) : D 9 [TL l] h = some (.ret (.int .i64 (filterE l)), h) := by
  have tkd := refTake_den l.length l (Nat.le_refl _) hl hs []
  have key : ∀ {J : Jn (AEnd × H)} (hJ : warrantorref32_Filter.F D 0 J), warrantorref32_Filter.f J (TL l) [] = some (.ret (.int .i64 (filterE l)), []) := by
    intro J hJ
    rw [warrantorref32_Filter.f_eq hJ]
    by_cases h1 : 128 < l.length
    · have : (128 : Int) < l.length := by omega
      simp [this, filterE, h1]
    · have h1' : ¬ (128 : Int) < l.length := by omega
      cases hk : tk l.length l with
      | none =>
        have n0 : tkN l = 0 := by simp [tkN, hk]
        rw [n0] at tkd
        simp [h1', tkd, filterE, h1, hk, warrantorref32_Filter.j0_eq hJ]
      | some p =>
        obtain ⟨r, d⟩ := p
        obtain ⟨f1, f2, f3, _⟩ := tk_facts _ _ _ _ hk
        have n1 : tkN l = l.length - r.length := by simp [tkN, hk]
        have d1 : tkD l = d := by simp [tkD, hk]
        rw [n1, d1] at tkd
        have nz : ¬ (l.length : Int) - r.length = 0 := by omega
        by_cases hr : r = []
        · subst hr
          have nz' : ¬ (l.length : Int) = 0 := by simp at nz; simpa using nz
          have nl : l ≠ [] := by rintro rfl; simp at nz'
          by_cases hd : 32 < d <;> simp [h1', tkd, filterE, h1, hk, warrantorref32_Filter.j0_eq hJ, nl, hd]
        · have hp := List.length_pos_iff.2 hr
          have lt : (l.length : Int) - r.length < l.length := by omega
          simp [h1', tkd, filterE, h1, hk, warrantorref32_Filter.j0_eq hJ, nz, lt, hr]
  exact warrantorref32_Filter.den 0 (by simp) (key (warrantorref32_Filter.fx 0)) rfl rfl
end Go.Proofs.Ytigkhjmlomogmaa
