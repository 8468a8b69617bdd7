/- What the document's functions of the filters' layer come to. -/
import Derived.Test.YtigkhjmlomogmaaP32S6
set_option linter.all false

open Go Go.Ve Go.Proofs
namespace Go.Proofs.Ytigkhjmlomogmaa
set_option maxRecDepth 100000

theorem expr_loop (s : List UInt8) (n : Nat) (hs : s.length ≤ 9223372036854775806) : ∀ (d i m : Nat), i + d = s.length → d < m →
    warrantorref17_Expr.l0 (warrantorref17_Expr.JD n) m (.str s) (.int .i64 i) [] = some (.ret (.bool (!(s.drop i).any oddB && (decide (1 ≤ s.length) && decide (s.length ≤ 128)))), [])
  | 0, i, m + 1, hi, _ => by
    rw [warrantorref17_Expr.l0_eq (warrantorref17_Expr.fx n)]
    have h1 : ¬ (i : Int) < s.length := by omega
    have h2 : s.drop i = [] := List.drop_of_length_le (by omega)
    by_cases h3 : 1 ≤ s.length
    · have h3' : (1 : Int) ≤ s.length := by omega
      by_cases h4 : s.length ≤ 128
      · have h4' : (s.length : Int) ≤ 128 := by omega
        simp [h1, h2, h3, h3', h4, h4']
      · have h4' : ¬ (s.length : Int) ≤ 128 := by omega
        simp [h1, h2, h3, h3', h4, h4']
    · have h3' : ¬ (1 : Int) ≤ s.length := by omega
      simp [h1, h2, h3, h3']
  | d + 1, i, m + 1, hi, hm => by
    rw [warrantorref17_Expr.l0_eq (warrantorref17_Expr.fx n)]
    have hil : i < s.length := by omega
    have h1 : (i : Int) < s.length := by omega
    have ih := expr_loop s n hs d (i + 1) m (by omega) (by omega)
    simp only [Int.natCast_add, Int.cast_ofNat_Int] at ih
    have w2 : IntKind.wrap .i64 ((i : Int) + 1) = i + 1 := wrap_i64 (by omega) (by omega)
    rw [List.drop_eq_getElem_cons hil, List.any_cons]
    by_cases h2 : (s[i]).toNat < 32
    · have h2' : ((s[i]).toNat : Int) < 32 := by omega
      have ho : oddB s[i] = true := by simp [oddB, h2]
      simp only [lnStr_str, Option.bind_some, bin_lss, h1, decide_true, condV_bool, if_true, ixStr_at s i hil, h2', warrantorref17_Expr.j0_eq (warrantorref17_Expr.fx n), ho, Bool.true_or, Bool.not_true, Bool.false_and]
    · have h2' : ¬ ((s[i]).toNat : Int) < 32 := by omega
      by_cases h3 : 126 < (s[i]).toNat
      · have h3' : ((s[i]).toNat : Int) > 126 := by omega
        have ho : oddB s[i] = true := by simp [oddB, h3]
        simp only [lnStr_str, Option.bind_some, bin_lss, bin_gtr, h1, decide_true, condV_bool, if_true, ixStr_at s i hil, h2', h3', decide_false, Bool.false_eq_true, if_false, warrantorref17_Expr.j0_eq (warrantorref17_Expr.fx n), ho, Bool.true_or, Bool.not_true, Bool.false_and]
      · have h3' : ¬ ((s[i]).toNat : Int) > 126 := by omega
        have ho : oddB s[i] = false := by simp only [oddB, h2, h3, decide_false, Bool.or_self]
        simp only [lnStr_str, Option.bind_some, bin_lss, bin_gtr, bin_add, h1, decide_true, condV_bool, if_true, ixStr_at s i hil, h2', h3', decide_false, Bool.false_eq_true, if_false, warrantorref17_Expr.j0_eq (warrantorref17_Expr.fx n), w2, ih, ho, Bool.false_or]

theorem text_den (s : List UInt8) (hs : s.length ≤ 9223372036854775806) (h : H) : D 33 [.str s] h = some (.ret (.bool (plainS s)), h) := by
  have d40 : D 40 [.str s] [] = some (.ret (.bool (!s.any oddB && (decide (1 ≤ s.length) && decide (s.length ≤ 128)))), []) := by
    refine warrantorref17_Expr.den (s.length + 1) rfl (h' := []) ?_ rfl rfl
    rw [warrantorref17_Expr.f_eq (warrantorref17_Expr.fx _)]
    have := expr_loop s (s.length + 1) hs s.length 0 (s.length + 1) (by omega) (by omega)
    simpa only [Int.cast_ofNat_Int, List.drop_zero] using this
  refine warrantorref32_text.den 0 rfl (h' := []) ?_ rfl rfl
  rw [warrantorref32_text.f_eq (warrantorref32_text.fx _)]
  by_cases h0 : s = []
  · subst h0
    simp [plainS]
  · have h1 : 1 ≤ s.length := List.length_pos_iff.2 h0
    simp only [bin_str, strBin_eql, Option.bind_some, h0, decide_false, condV_bool, Bool.false_eq_true, if_false, canon_str, d40, retOr_ret, copy_bool, h1, decide_true, Bool.true_and, plainS]
    rw [Bool.and_comm]

theorem refParse_loop (s : List UInt8) (n : Nat) (hs : s.length = 16) : ∀ (d i m : Nat) (z : Int), i + d = 16 → d < m →
    ∃ z', warrantorref19_Parse.l0 (warrantorref19_Parse.JD n) m (.str s) (.int .u64 z) (.int .i64 i) [] = some (.ret (.tuple [.int .u64 z', .bool ((s.drop i).all hexB)]), [])
  | 0, i, m + 1, z, hi, _ => by
    rw [warrantorref19_Parse.l0_eq (warrantorref19_Parse.fx n)]
    have : ¬ (i : Int) < 16 := by omega
    exact ⟨z, by simp [this, List.drop_of_length_le (show s.length ≤ i by omega)]⟩
  | d + 1, i, m + 1, z, hi, hm => by
    rw [warrantorref19_Parse.l0_eq (warrantorref19_Parse.fx n)]
    have hil : i < s.length := by omega
    have h1 : (i : Int) < 16 := by omega
    have w2 : IntKind.wrap .i64 ((i : Int) + 1) = i + 1 := wrap_i64 (by omega) (by omega)
    rw [List.drop_eq_getElem_cons hil, List.all_cons]
    by_cases hd : 48 ≤ (s[i]).toNat ∧ (s[i]).toNat ≤ 57
    · obtain ⟨a, b⟩ := hd
      have a' : ((s[i]).toNat : Int) ≥ 48 := by omega
      have b' : ((s[i]).toNat : Int) ≤ 57 := by omega
      have hx : hexB s[i] = true := by simp [hexB, a, b]
      obtain ⟨z', ih⟩ := refParse_loop s n hs d (i + 1) m (IntKind.wrap .u64 (IntKind.wrap .u64 (16 * z) + IntKind.wrap .u64 (IntKind.wrap .u8 ((s[i]).toNat - 48)))) (by omega) (by omega)
      simp only [Int.natCast_add, Int.cast_ofNat_Int] at ih
      refine ⟨z', ?_⟩
      simp only [bin_lss, h1, decide_true, Option.bind_some, condV_bool, if_true, ixStr_at s i hil, bin_geq, a', bin_leq, b', warrantorref19_Parse.j0_eq (warrantorref19_Parse.fx n), bin_mul, bin_sub, cvInt_int, bin_add, w2, ih, hx, Bool.true_and]
    · by_cases he : 97 ≤ (s[i]).toNat ∧ (s[i]).toNat ≤ 102
      · obtain ⟨a, b⟩ := he
        have a' : ((s[i]).toNat : Int) ≥ 97 := by omega
        have b' : ((s[i]).toNat : Int) ≤ 102 := by omega
        have c' : ((s[i]).toNat : Int) ≥ 48 := by omega
        have d' : ¬ ((s[i]).toNat : Int) ≤ 57 := by omega
        have hx : hexB s[i] = true := by simp [hexB, a, b]
        obtain ⟨z', ih⟩ := refParse_loop s n hs d (i + 1) m (IntKind.wrap .u64 (IntKind.wrap .u64 (IntKind.wrap .u64 (16 * z) + IntKind.wrap .u64 (IntKind.wrap .u8 ((s[i]).toNat - 97))) + 10)) (by omega) (by omega)
        simp only [Int.natCast_add, Int.cast_ofNat_Int] at ih
        refine ⟨z', ?_⟩
        simp only [bin_lss, h1, decide_true, Option.bind_some, condV_bool, if_true, ixStr_at s i hil, bin_geq, a', c', bin_leq, b', d', decide_false, Bool.false_eq_true, if_false, warrantorref19_Parse.j0_eq (warrantorref19_Parse.fx n), warrantorref19_Parse.j1_eq (warrantorref19_Parse.fx n), bin_mul, bin_sub, cvInt_int, bin_add, w2, ih, hx, Bool.true_and]
      · have hx : hexB s[i] = false := by
          simp only [hexB, Bool.or_eq_false_iff, Bool.and_eq_false_iff, decide_eq_false_iff_not]; omega
        refine ⟨0, ?_⟩
        by_cases c1 : 48 ≤ (s[i]).toNat
        · have c' : ((s[i]).toNat : Int) ≥ 48 := by omega
          have d' : ¬ ((s[i]).toNat : Int) ≤ 57 := by omega
          by_cases c2 : 97 ≤ (s[i]).toNat
          · have e' : ((s[i]).toNat : Int) ≥ 97 := by omega
            have f' : ¬ ((s[i]).toNat : Int) ≤ 102 := by omega
            simp only [bin_lss, h1, decide_true, Option.bind_some, condV_bool, if_true, ixStr_at s i hil, bin_geq, c', bin_leq, d', e', f', decide_false, Bool.false_eq_true, if_false, warrantorref19_Parse.j0_eq (warrantorref19_Parse.fx n), warrantorref19_Parse.j1_eq (warrantorref19_Parse.fx n), hx, Bool.false_and]
          · have e' : ¬ ((s[i]).toNat : Int) ≥ 97 := by omega
            simp only [bin_lss, h1, decide_true, Option.bind_some, condV_bool, if_true, ixStr_at s i hil, bin_geq, c', bin_leq, d', e', decide_false, Bool.false_eq_true, if_false, warrantorref19_Parse.j0_eq (warrantorref19_Parse.fx n), warrantorref19_Parse.j1_eq (warrantorref19_Parse.fx n), hx, Bool.false_and]
        · have c' : ¬ ((s[i]).toNat : Int) ≥ 48 := by omega
          have e' : ¬ ((s[i]).toNat : Int) ≥ 97 := by omega
          simp only [bin_lss, h1, decide_true, Option.bind_some, condV_bool, if_true, ixStr_at s i hil, bin_geq, c', e', decide_false, Bool.false_eq_true, if_false, warrantorref19_Parse.j0_eq (warrantorref19_Parse.fx n), warrantorref19_Parse.j1_eq (warrantorref19_Parse.fx n), hx, Bool.false_and]
theorem refParse_den (s : List UInt8) (h : H) : ∃ z, D 34 [.str s] h = some (.ret (.tuple [.int .u64 z, .bool (hexS s)]), h) := by
  by_cases hs : s.length = 16
  · obtain ⟨z', hl⟩ := refParse_loop s 17 hs 16 0 17 0 (by omega) (by omega)
    refine ⟨z', warrantorref19_Parse.den 17 rfl (h' := []) ?_ rfl (by kernel_rfl)⟩
    rw [warrantorref19_Parse.f_eq (warrantorref19_Parse.fx _)]
    have h2 : (s.length : Int) = 16 := by omega
    simp only [Int.cast_ofNat_Int, List.drop_zero] at hl
    simp [h2, hl, hexS, hs]
  · refine ⟨0, warrantorref19_Parse.den 17 rfl (h' := []) ?_ rfl (by kernel_rfl)⟩
    rw [warrantorref19_Parse.f_eq (warrantorref19_Parse.fx _)]
    have h2 : ¬ (s.length : Int) = 16 := by omega
    simp [h2, hexS, hs]

theorem rel_one (r : Int) : (decide (1 ≤ r) && (decide (r ≤ 5) && decide (UInt8.ofNat r.toNat ∈ ([1] : List UInt8)))) = decide (r = 1) := by
  by_cases h : 1 ≤ r ∧ r ≤ 5
  · have : r = 1 ∨ r = 2 ∨ r = 3 ∨ r = 4 ∨ r = 5 := by omega
    rcases this with rfl | rfl | rfl | rfl | rfl <;> decide
  · have h1 : ¬ r = 1 := by omega
    rw [decide_eq_false h1]
    by_cases h2 : 1 ≤ r
    · have h3 : ¬ r ≤ 5 := by omega
      simp [h3]
    · simp [h2]
theorem rel_three (r : Int) : (decide (1 ≤ r) && (decide (r ≤ 5) && decide (UInt8.ofNat r.toNat ∈ ([1, 4, 5] : List UInt8)))) = decide (r = 1 ∨ r = 4 ∨ r = 5) := by
  by_cases h : 1 ≤ r ∧ r ≤ 5
  · have : r = 1 ∨ r = 2 ∨ r = 3 ∨ r = 4 ∨ r = 5 := by omega
    rcases this with rfl | rfl | rfl | rfl | rfl <;> decide
  · have h1 : ¬ (r = 1 ∨ r = 4 ∨ r = 5) := by omega
    rw [decide_eq_false h1]
    by_cases h2 : 1 ≤ r
    · have h3 : ¬ r ≤ 5 := by omega
      simp [h3]
    · simp [h2]
theorem rel_text (r : Int) : (decide (1 ≤ r) && (decide (r ≤ 5) && decide (UInt8.ofNat r.toNat ∈ ([1, 2, 3] : List UInt8)))) = decide (1 ≤ r ∧ r ≤ 3) := by
  by_cases h : 1 ≤ r ∧ r ≤ 5
  · have : r = 1 ∨ r = 2 ∨ r = 3 ∨ r = 4 ∨ r = 5 := by omega
    rcases this with rfl | rfl | rfl | rfl | rfl <;> decide
  · have h1 : ¬ (1 ≤ r ∧ r ≤ 3) := by omega
    rw [decide_eq_false h1]
    by_cases h2 : 1 ≤ r
    · have h3 : ¬ r ≤ 5 := by omega
      simp [h3]
    · simp [h2]
theorem cmpB_of (t : Term) (f1 : 1 ≤ t.field) (f2 : t.field ≤ 10) (ho : t.op = 2) : cmpB t = ((decide (1 ≤ t.rel) && (decide (t.rel ≤ 5) && decide (UInt8.ofNat t.rel.toNat ∈ (shp t.field).rels))) && (decide ((shp t.field).least ≤ t.num) && (decide (t.num ≤ (shp t.field).most) && textB (shp t.field).text t.text))) := by
  simp only [cmpB, ho, f1, f2, decide_true, Bool.true_and, Bool.and_assoc]

theorem zero_only (z : Int) (b : Bool) (h : ¬ z = 0) : (decide (0 ≤ z) && (decide (z ≤ 0) && b)) = false := by
  by_cases h1 : 0 ≤ z
  · have h2 : ¬ z ≤ 0 := by omega
    simp [h2]
  · simp [h1]
theorem cmp_1 {J : Jn (AEnd × H)} (hJ : warrantorref32_Cmp.F D 0 J) (t : Term) (ho : t.op = 2) (hf : t.field = 1) (hsh : shp t.field = ⟨1, 3, [1], 0⟩) : warrantorref32_Cmp.f J (.agg t.c) [] = some (.ret (.bool ((decide (1 ≤ t.rel) && (decide (t.rel ≤ 5) && decide (UInt8.ofNat t.rel.toNat ∈ (shp t.field).rels))) && (decide ((shp t.field).least ≤ t.num) && (decide (t.num ≤ (shp t.field).most) && textB (shp t.field).text t.text)))), [.arr t.c false]) := by
  rw [warrantorref32_Cmp.f_eq hJ]
  simp only [hsh, rel_one]
  by_cases r1 : t.rel = 1
  · by_cases n1 : 1 ≤ t.num
    · by_cases n2 : t.num ≤ 3 <;> simp [ho, hf, warrantorref32_Cmp.j0_eq hJ, r1, n1, n2, textB]
    · simp [ho, hf, warrantorref32_Cmp.j0_eq hJ, r1, n1, textB]
  · simp [ho, hf, warrantorref32_Cmp.j0_eq hJ, r1]
theorem cmp_2 {J : Jn (AEnd × H)} (hJ : warrantorref32_Cmp.F D 0 J) (t : Term) (ho : t.op = 2) (hf : t.field = 2) (hsh : shp t.field = ⟨1, 2, [1], 0⟩) : warrantorref32_Cmp.f J (.agg t.c) [] = some (.ret (.bool ((decide (1 ≤ t.rel) && (decide (t.rel ≤ 5) && decide (UInt8.ofNat t.rel.toNat ∈ (shp t.field).rels))) && (decide ((shp t.field).least ≤ t.num) && (decide (t.num ≤ (shp t.field).most) && textB (shp t.field).text t.text)))), [.arr t.c false]) := by
  rw [warrantorref32_Cmp.f_eq hJ]
  simp only [hsh, rel_one]
  by_cases r1 : t.rel = 1
  · by_cases n1 : 1 ≤ t.num
    · by_cases n2 : t.num ≤ 2 <;> simp [ho, hf, warrantorref32_Cmp.j0_eq hJ, r1, n1, n2, textB]
    · simp [ho, hf, warrantorref32_Cmp.j0_eq hJ, r1, n1, textB]
  · simp [ho, hf, warrantorref32_Cmp.j0_eq hJ, r1]
theorem cmp_3 {J : Jn (AEnd × H)} (hJ : warrantorref32_Cmp.F D 0 J) (t : Term) (ho : t.op = 2) (hf : t.field = 3) (hsh : shp t.field = ⟨1, 3, [1], 0⟩) : warrantorref32_Cmp.f J (.agg t.c) [] = some (.ret (.bool ((decide (1 ≤ t.rel) && (decide (t.rel ≤ 5) && decide (UInt8.ofNat t.rel.toNat ∈ (shp t.field).rels))) && (decide ((shp t.field).least ≤ t.num) && (decide (t.num ≤ (shp t.field).most) && textB (shp t.field).text t.text)))), [.arr t.c false]) := by
  rw [warrantorref32_Cmp.f_eq hJ]
  simp only [hsh, rel_one]
  by_cases r1 : t.rel = 1
  · by_cases n1 : 1 ≤ t.num
    · by_cases n2 : t.num ≤ 3 <;> simp [ho, hf, warrantorref32_Cmp.j0_eq hJ, r1, n1, n2, textB]
    · simp [ho, hf, warrantorref32_Cmp.j0_eq hJ, r1, n1, textB]
  · simp [ho, hf, warrantorref32_Cmp.j0_eq hJ, r1]
theorem cmp_4 {J : Jn (AEnd × H)} (hJ : warrantorref32_Cmp.F D 0 J) (t : Term) (ho : t.op = 2) (hf : t.field = 4) (hsh : shp t.field = ⟨0, 1048576, [1, 4, 5], 0⟩) : warrantorref32_Cmp.f J (.agg t.c) [] = some (.ret (.bool ((decide (1 ≤ t.rel) && (decide (t.rel ≤ 5) && decide (UInt8.ofNat t.rel.toNat ∈ (shp t.field).rels))) && (decide ((shp t.field).least ≤ t.num) && (decide (t.num ≤ (shp t.field).most) && textB (shp t.field).text t.text)))), [.arr t.c false]) := by
  rw [warrantorref32_Cmp.f_eq hJ]
  simp only [hsh, rel_three]
  rcases (show t.rel = 1 ∨ t.rel = 4 ∨ t.rel = 5 ∨ (t.rel ≠ 1 ∧ t.rel ≠ 4 ∧ t.rel ≠ 5) by omega) with r1 | r1 | r1 | ⟨r1, r2, r3⟩
  · by_cases n1 : 0 ≤ t.num
    · by_cases n2 : t.num ≤ 1048576 <;> simp [ho, hf, warrantorref32_Cmp.j0_eq hJ, warrantorref32_Cmp.j1_eq hJ, r1, n1, n2, textB]
    · simp [ho, hf, warrantorref32_Cmp.j0_eq hJ, warrantorref32_Cmp.j1_eq hJ, r1, n1, textB]
  · by_cases n1 : 0 ≤ t.num
    · by_cases n2 : t.num ≤ 1048576 <;> simp [ho, hf, warrantorref32_Cmp.j0_eq hJ, warrantorref32_Cmp.j1_eq hJ, r1, n1, n2, textB]
    · simp [ho, hf, warrantorref32_Cmp.j0_eq hJ, warrantorref32_Cmp.j1_eq hJ, r1, n1, textB]
  · by_cases n1 : 0 ≤ t.num
    · by_cases n2 : t.num ≤ 1048576 <;> simp [ho, hf, warrantorref32_Cmp.j0_eq hJ, warrantorref32_Cmp.j1_eq hJ, r1, n1, n2, textB]
    · simp [ho, hf, warrantorref32_Cmp.j0_eq hJ, warrantorref32_Cmp.j1_eq hJ, r1, n1, textB]
  · simp [ho, hf, warrantorref32_Cmp.j0_eq hJ, warrantorref32_Cmp.j1_eq hJ, r1, r2, r3]
theorem cmp_5 {J : Jn (AEnd × H)} (hJ : warrantorref32_Cmp.F D 0 J) (t : Term) (ho : t.op = 2) (hf : t.field = 5) (hsh : shp t.field = ⟨0, 1048576, [1, 4, 5], 0⟩) : warrantorref32_Cmp.f J (.agg t.c) [] = some (.ret (.bool ((decide (1 ≤ t.rel) && (decide (t.rel ≤ 5) && decide (UInt8.ofNat t.rel.toNat ∈ (shp t.field).rels))) && (decide ((shp t.field).least ≤ t.num) && (decide (t.num ≤ (shp t.field).most) && textB (shp t.field).text t.text)))), [.arr t.c false]) := by
  rw [warrantorref32_Cmp.f_eq hJ]
  simp only [hsh, rel_three]
  rcases (show t.rel = 1 ∨ t.rel = 4 ∨ t.rel = 5 ∨ (t.rel ≠ 1 ∧ t.rel ≠ 4 ∧ t.rel ≠ 5) by omega) with r1 | r1 | r1 | ⟨r1, r2, r3⟩
  · by_cases n1 : 0 ≤ t.num
    · by_cases n2 : t.num ≤ 1048576 <;> simp [ho, hf, warrantorref32_Cmp.j0_eq hJ, warrantorref32_Cmp.j1_eq hJ, r1, n1, n2, textB]
    · simp [ho, hf, warrantorref32_Cmp.j0_eq hJ, warrantorref32_Cmp.j1_eq hJ, r1, n1, textB]
  · by_cases n1 : 0 ≤ t.num
    · by_cases n2 : t.num ≤ 1048576 <;> simp [ho, hf, warrantorref32_Cmp.j0_eq hJ, warrantorref32_Cmp.j1_eq hJ, r1, n1, n2, textB]
    · simp [ho, hf, warrantorref32_Cmp.j0_eq hJ, warrantorref32_Cmp.j1_eq hJ, r1, n1, textB]
  · by_cases n1 : 0 ≤ t.num
    · by_cases n2 : t.num ≤ 1048576 <;> simp [ho, hf, warrantorref32_Cmp.j0_eq hJ, warrantorref32_Cmp.j1_eq hJ, r1, n1, n2, textB]
    · simp [ho, hf, warrantorref32_Cmp.j0_eq hJ, warrantorref32_Cmp.j1_eq hJ, r1, n1, textB]
  · simp [ho, hf, warrantorref32_Cmp.j0_eq hJ, warrantorref32_Cmp.j1_eq hJ, r1, r2, r3]
theorem cmp_6 {J : Jn (AEnd × H)} (hJ : warrantorref32_Cmp.F D 0 J) (t : Term) (ho : t.op = 2) (hf : t.field = 6) (hsh : shp t.field = ⟨0, 0, [1, 2, 3], 1⟩) (tx : ∀ h, D 33 [.str t.text] h = some (.ret (.bool (plainS t.text)), h)) : warrantorref32_Cmp.f J (.agg t.c) [] = some (.ret (.bool ((decide (1 ≤ t.rel) && (decide (t.rel ≤ 5) && decide (UInt8.ofNat t.rel.toNat ∈ (shp t.field).rels))) && (decide ((shp t.field).least ≤ t.num) && (decide (t.num ≤ (shp t.field).most) && textB (shp t.field).text t.text)))), [.arr t.c false]) := by
  rw [warrantorref32_Cmp.f_eq hJ]
  simp only [hsh, rel_text]
  by_cases r1 : 1 ≤ t.rel
  · by_cases r2 : t.rel ≤ 3
    · by_cases n1 : t.num = 0
      · simp [ho, hf, warrantorref32_Cmp.j0_eq hJ, warrantorref32_Cmp.j1_eq hJ, warrantorref32_Cmp.j2_eq hJ, r1, r2, n1, tx, textB]
      · have n2 : ¬ (0 ≤ t.num ∧ t.num ≤ 0) := by omega
        have n3 : (decide (0 ≤ t.num) && (decide (t.num ≤ 0) && textB 1 t.text)) = false := zero_only _ _ n1
        simp only [n3]
        simp [ho, hf, warrantorref32_Cmp.j0_eq hJ, warrantorref32_Cmp.j1_eq hJ, warrantorref32_Cmp.j2_eq hJ, r1, r2, n1]
    · simp [ho, hf, warrantorref32_Cmp.j0_eq hJ, warrantorref32_Cmp.j1_eq hJ, warrantorref32_Cmp.j2_eq hJ, r1, r2]
  · simp [ho, hf, warrantorref32_Cmp.j0_eq hJ, warrantorref32_Cmp.j1_eq hJ, warrantorref32_Cmp.j2_eq hJ, r1]
theorem cmp_7 {J : Jn (AEnd × H)} (hJ : warrantorref32_Cmp.F D 0 J) (t : Term) (ho : t.op = 2) (hf : t.field = 7) (hsh : shp t.field = ⟨0, 0, [1, 2, 3], 1⟩) (tx : ∀ h, D 33 [.str t.text] h = some (.ret (.bool (plainS t.text)), h)) : warrantorref32_Cmp.f J (.agg t.c) [] = some (.ret (.bool ((decide (1 ≤ t.rel) && (decide (t.rel ≤ 5) && decide (UInt8.ofNat t.rel.toNat ∈ (shp t.field).rels))) && (decide ((shp t.field).least ≤ t.num) && (decide (t.num ≤ (shp t.field).most) && textB (shp t.field).text t.text)))), [.arr t.c false]) := by
  rw [warrantorref32_Cmp.f_eq hJ]
  simp only [hsh, rel_text]
  by_cases r1 : 1 ≤ t.rel
  · by_cases r2 : t.rel ≤ 3
    · by_cases n1 : t.num = 0
      · simp [ho, hf, warrantorref32_Cmp.j0_eq hJ, warrantorref32_Cmp.j1_eq hJ, warrantorref32_Cmp.j2_eq hJ, r1, r2, n1, tx, textB]
      · have n2 : ¬ (0 ≤ t.num ∧ t.num ≤ 0) := by omega
        have n3 : (decide (0 ≤ t.num) && (decide (t.num ≤ 0) && textB 1 t.text)) = false := zero_only _ _ n1
        simp only [n3]
        simp [ho, hf, warrantorref32_Cmp.j0_eq hJ, warrantorref32_Cmp.j1_eq hJ, warrantorref32_Cmp.j2_eq hJ, r1, r2, n1]
    · simp [ho, hf, warrantorref32_Cmp.j0_eq hJ, warrantorref32_Cmp.j1_eq hJ, warrantorref32_Cmp.j2_eq hJ, r1, r2]
  · simp [ho, hf, warrantorref32_Cmp.j0_eq hJ, warrantorref32_Cmp.j1_eq hJ, warrantorref32_Cmp.j2_eq hJ, r1]
theorem cmp_8 {J : Jn (AEnd × H)} (hJ : warrantorref32_Cmp.F D 0 J) (t : Term) (ho : t.op = 2) (hf : t.field = 8) (hsh : shp t.field = ⟨0, 0, [1, 2, 3], 1⟩) (tx : ∀ h, D 33 [.str t.text] h = some (.ret (.bool (plainS t.text)), h)) : warrantorref32_Cmp.f J (.agg t.c) [] = some (.ret (.bool ((decide (1 ≤ t.rel) && (decide (t.rel ≤ 5) && decide (UInt8.ofNat t.rel.toNat ∈ (shp t.field).rels))) && (decide ((shp t.field).least ≤ t.num) && (decide (t.num ≤ (shp t.field).most) && textB (shp t.field).text t.text)))), [.arr t.c false]) := by
  rw [warrantorref32_Cmp.f_eq hJ]
  simp only [hsh, rel_text]
  by_cases r1 : 1 ≤ t.rel
  · by_cases r2 : t.rel ≤ 3
    · by_cases n1 : t.num = 0
      · simp [ho, hf, warrantorref32_Cmp.j0_eq hJ, warrantorref32_Cmp.j1_eq hJ, warrantorref32_Cmp.j2_eq hJ, r1, r2, n1, tx, textB]
      · have n2 : ¬ (0 ≤ t.num ∧ t.num ≤ 0) := by omega
        have n3 : (decide (0 ≤ t.num) && (decide (t.num ≤ 0) && textB 1 t.text)) = false := zero_only _ _ n1
        simp only [n3]
        simp [ho, hf, warrantorref32_Cmp.j0_eq hJ, warrantorref32_Cmp.j1_eq hJ, warrantorref32_Cmp.j2_eq hJ, r1, r2, n1]
    · simp [ho, hf, warrantorref32_Cmp.j0_eq hJ, warrantorref32_Cmp.j1_eq hJ, warrantorref32_Cmp.j2_eq hJ, r1, r2]
  · simp [ho, hf, warrantorref32_Cmp.j0_eq hJ, warrantorref32_Cmp.j1_eq hJ, warrantorref32_Cmp.j2_eq hJ, r1]
theorem cmp_9 {J : Jn (AEnd × H)} (hJ : warrantorref32_Cmp.F D 0 J) (t : Term) (ho : t.op = 2) (hf : t.field = 9) (hsh : shp t.field = ⟨0, 0, [1, 2, 3], 1⟩) (tx : ∀ h, D 33 [.str t.text] h = some (.ret (.bool (plainS t.text)), h)) : warrantorref32_Cmp.f J (.agg t.c) [] = some (.ret (.bool ((decide (1 ≤ t.rel) && (decide (t.rel ≤ 5) && decide (UInt8.ofNat t.rel.toNat ∈ (shp t.field).rels))) && (decide ((shp t.field).least ≤ t.num) && (decide (t.num ≤ (shp t.field).most) && textB (shp t.field).text t.text)))), [.arr t.c false]) := by
  rw [warrantorref32_Cmp.f_eq hJ]
  simp only [hsh, rel_text]
  by_cases r1 : 1 ≤ t.rel
  · by_cases r2 : t.rel ≤ 3
    · by_cases n1 : t.num = 0
      · simp [ho, hf, warrantorref32_Cmp.j0_eq hJ, warrantorref32_Cmp.j1_eq hJ, warrantorref32_Cmp.j2_eq hJ, r1, r2, n1, tx, textB]
      · have n2 : ¬ (0 ≤ t.num ∧ t.num ≤ 0) := by omega
        have n3 : (decide (0 ≤ t.num) && (decide (t.num ≤ 0) && textB 1 t.text)) = false := zero_only _ _ n1
        simp only [n3]
        simp [ho, hf, warrantorref32_Cmp.j0_eq hJ, warrantorref32_Cmp.j1_eq hJ, warrantorref32_Cmp.j2_eq hJ, r1, r2, n1]
    · simp [ho, hf, warrantorref32_Cmp.j0_eq hJ, warrantorref32_Cmp.j1_eq hJ, warrantorref32_Cmp.j2_eq hJ, r1, r2]
  · simp [ho, hf, warrantorref32_Cmp.j0_eq hJ, warrantorref32_Cmp.j1_eq hJ, warrantorref32_Cmp.j2_eq hJ, r1]
theorem cmp_10 {J : Jn (AEnd × H)} (hJ : warrantorref32_Cmp.F D 0 J) (t : Term) (ho : t.op = 2) (hf : t.field = 10) (hsh : shp t.field = ⟨0, 0, [1], 2⟩) {z : Int} (pz : D 34 [.str t.text] [.arr t.c false] = some (.ret (.tuple [.int .u64 z, .bool (hexS t.text)]), [.arr t.c false])) : warrantorref32_Cmp.f J (.agg t.c) [] = some (.ret (.bool ((decide (1 ≤ t.rel) && (decide (t.rel ≤ 5) && decide (UInt8.ofNat t.rel.toNat ∈ (shp t.field).rels))) && (decide ((shp t.field).least ≤ t.num) && (decide (t.num ≤ (shp t.field).most) && textB (shp t.field).text t.text)))), [.arr t.c false]) := by
  rw [warrantorref32_Cmp.f_eq hJ]
  simp only [hsh, rel_one]
  by_cases r1 : t.rel = 1
  · by_cases n1 : t.num = 0
    · simp [ho, hf, warrantorref32_Cmp.j0_eq hJ, warrantorref32_Cmp.j1_eq hJ, warrantorref32_Cmp.j2_eq hJ, r1, n1, pz, textB]
    · have n3 : (decide (0 ≤ t.num) && (decide (t.num ≤ 0) && textB 2 t.text)) = false := zero_only _ _ n1
      simp only [n3]
      simp [ho, hf, warrantorref32_Cmp.j0_eq hJ, warrantorref32_Cmp.j1_eq hJ, warrantorref32_Cmp.j2_eq hJ, r1, n1, pz]
  · simp [ho, hf, warrantorref32_Cmp.j0_eq hJ, warrantorref32_Cmp.j1_eq hJ, warrantorref32_Cmp.j2_eq hJ, r1, pz]
theorem refCmp_den (t : Term) (hs : t.text.length ≤ 9223372036854775806) (h : H) : D 28 [.agg t.c] h = some (.ret (.bool (cmpB t)), h) := by
  have tx := fun h => text_den t.text hs h
  obtain ⟨z, pz⟩ := refParse_den t.text [.arr t.c false]
  have key : ∀ {J : Jn (AEnd × H)} (hJ : warrantorref32_Cmp.F D 0 J), warrantorref32_Cmp.f J (.agg t.c) [] = some (.ret (.bool (cmpB t)), [.arr t.c false]) := by
    intro J hJ
    by_cases ho : t.op = 2
    case neg =>
      rw [warrantorref32_Cmp.f_eq hJ]
      simp [ho, cmpB]
    by_cases hf : 1 ≤ t.field ∧ t.field ≤ 10
    case neg =>
      have hc : cmpB t = false := by
        unfold cmpB
        by_cases h1 : 1 ≤ t.field
        · have h2 : ¬ t.field ≤ 10 := by omega
          simp [h2]
        · simp [h1]
      rw [warrantorref32_Cmp.f_eq hJ]
      simp [ho, hc, show ¬ t.field = 1 by omega, show ¬ t.field = 2 by omega, show ¬ t.field = 3 by omega, show ¬ t.field = 4 by omega, show ¬ t.field = 5 by omega, show ¬ t.field = 6 by omega, show ¬ t.field = 7 by omega, show ¬ t.field = 8 by omega, show ¬ t.field = 9 by omega, show ¬ t.field = 10 by omega,
        warrantorref32_Cmp.j0_eq hJ, warrantorref32_Cmp.j1_eq hJ, warrantorref32_Cmp.j2_eq hJ]
    rw [cmpB_of t hf.1 hf.2 ho]
    have hcase : t.field = 1 ∨ t.field = 2 ∨ t.field = 3 ∨ t.field = 4 ∨ t.field = 5 ∨ t.field = 6 ∨ t.field = 7 ∨ t.field = 8 ∨ t.field = 9 ∨ t.field = 10 := by omega
    rcases hcase with hf | hf | hf | hf | hf | hf | hf | hf | hf | hf
    · exact cmp_1 hJ t ho hf (by rw [hf]; rfl)
    · exact cmp_2 hJ t ho hf (by rw [hf]; rfl)
    · exact cmp_3 hJ t ho hf (by rw [hf]; rfl)
    · exact cmp_4 hJ t ho hf (by rw [hf]; rfl)
    · exact cmp_5 hJ t ho hf (by rw [hf]; rfl)
    · exact cmp_6 hJ t ho hf (by rw [hf]; rfl) tx
    · exact cmp_7 hJ t ho hf (by rw [hf]; rfl) tx
    · exact cmp_8 hJ t ho hf (by rw [hf]; rfl) tx
    · exact cmp_9 hJ t ho hf (by rw [hf]; rfl) tx
    · exact cmp_10 hJ t ho hf (by rw [hf]; rfl) pz
  exact warrantorref32_Cmp.den 0 rfl (key (warrantorref32_Cmp.fx 0)) rfl rfl
theorem refPlain_den (t : Term) (h : H) : D 29 [.agg t.c] h = some (.ret (.bool (bare t)), h) := by
  have hmk : mkAgg [.int .i64 0, .int .i64 0, .int .i64 0, .int .i64 0, .str []] [(0, 1, .int .i64 t.op)] = some (.agg (Term.c ⟨t.op, 0, 0, 0, []⟩)) := rfl
  refine warrantorref32_plain.den 0 rfl (h' := [.arr t.c false]) ?_ rfl rfl
  rw [warrantorref32_plain.f_eq (warrantorref32_plain.fx _)]
  simp [hmk, term_eq, eqv, bare]
end Go.Proofs.Ytigkhjmlomogmaa
