/- What the functions of the filters' layer come to: 2: texts. -/
import Derived.Test.YtigkhjmlomogmaaP32S1
import Derived.Test.YtigkhjmlomogmaaVa4
import Derived.Laws.RangeString
import Derived.Laws.RangeAny
set_option linter.all false

open Go Go.Ve Go.Proofs
namespace Go.Proofs.Ytigkhjmlomogmaa
set_option maxRecDepth 100000

/-- A byte that may not stand in a text. -/
def oddB (b : UInt8) : Bool := decide (b.toNat < 32) || decide (126 < b.toNat)

theorem odd_den (c : Int) (h : H) : D 41 [.int .i32 c] h = some (.ret (.bool (decide (c < 32) || decide (126 < c))), h) := by
  refine ask_plain_c1.den 0 rfl (h' := []) ?_ rfl rfl
  rw [ask_plain_c1.f_eq (ask_plain_c1.fx _)]
  by_cases h1 : c < 32 <;> simp [h1]

theorem str_get (l : List UInt8) (i : Nat) (hi : i < l.length) : ((⟨l.toArray⟩ : ByteArray)[i]'(by simpa [ByteArray.size] using hi)) = l[i] := by
  simp [ByteArray.getElem_eq_getElem_data]

theorem indexFunc_loop (s : List UInt8) (n : Nat) : ∀ (d i m : Nat), i + d = s.length → d < m →
    ∃ r h', strings_indexFunc.l0 (strings_indexFunc.JD n) m (.func (.func 41) [] []) (.bool true) (.ptr 0 0) [.siter s i] = some (.ret (.int .i64 r), h') ∧ (0 ≤ r ↔ (s.drop i).any oddB = true)
  | 0, i, m + 1, hi, _ => by
    rw [strings_indexFunc.l0_eq (strings_indexFunc.fx n)]
    have : ¬ i < s.length := by omega
    refine ⟨-1, [.siter s i], ?_, ?_⟩
    · simp [next, this]
    · simp [List.drop_of_length_le (show s.length ≤ i by omega)]
  | d + 1, i, m + 1, hi, hm => by
    rw [strings_indexFunc.l0_eq (strings_indexFunc.fx n)]
    have hil : i < s.length := by omega
    have hsz : i < (⟨s.toArray⟩ : ByteArray).size := by simpa [ByteArray.size] using hil
    rw [List.drop_eq_getElem_cons hil, List.any_cons]
    by_cases hb : (s[i]).toNat < 128
    · have hdec : Utf8.decode ⟨s.toArray⟩ i = ((s[i]).toNat, 1) := by
        rw [decode_ascii _ _ hsz (by rw [str_get s i hil]; exact hb), str_get s i hil]
      by_cases ho : oddB s[i] = true
      · refine ⟨i, [.siter s (i + 1)], ?_, by simp [ho]⟩
        have h2 : (decide (((s[i]).toNat : Int) < 32) || decide (126 < ((s[i]).toNat : Int))) = true := by
          unfold oddB at ho
          simp only [Bool.or_eq_true, decide_eq_true_eq] at ho ⊢
          omega
        simp [next, hil, hdec, callVal, odd_den, h2]
      · obtain ⟨r, h', hr, hiff⟩ := indexFunc_loop s n d (i + 1) m (by omega) (by omega)
        refine ⟨r, h', ?_, by simp [ho, hiff]⟩
        have h2 : (decide (((s[i]).toNat : Int) < 32) || decide (126 < ((s[i]).toNat : Int))) = false := by
          unfold oddB at ho
          simp only [Bool.or_eq_true, decide_eq_true_eq, Bool.or_eq_false_iff, decide_eq_false_iff_not] at ho ⊢
          omega
        simp [next, hil, hdec, callVal, odd_den, h2, hr]
    · have hdec := decode_high ⟨s.toArray⟩ i hsz (by rw [str_get s i hil]; omega)
      have ho : oddB s[i] = true := by simp [oddB]; omega
      refine ⟨i, [.siter s (i + (Utf8.decode ⟨s.toArray⟩ i).2)], ?_, by simp [ho]⟩
      have h2 : (decide (((Utf8.decode ⟨s.toArray⟩ i).1 : Int) < 32) || decide (126 < ((Utf8.decode ⟨s.toArray⟩ i).1 : Int))) = true := by
        simp only [Bool.or_eq_true, decide_eq_true_eq]
        omega
      simp [next, hil, callVal, odd_den, h2]

theorem containsFunc_den (s : List UInt8) (h : H) : D 42 [.str s, .func (.func 41) [] []] h = some (.ret (.bool (s.any oddB)), h) := by
  obtain ⟨r, h', hr, hiff⟩ := indexFunc_loop s (s.length + 1) s.length 0 (s.length + 1) (by omega) (by omega)
  have d46 : ∀ h, D 46 [.str s, .func (.func 41) [] [], .bool true] h = some (.ret (.int .i64 r), h) := by
    intro h
    refine strings_indexFunc.den (s.length + 1) rfl (h' := h') ?_ rfl rfl
    rw [strings_indexFunc.f_eq (strings_indexFunc.fx _)]
    simp [rgStr, hr]
  have d45 : ∀ h, D 45 [.str s, .func (.func 41) [] []] h = some (.ret (.int .i64 r), h) := by
    intro h
    refine strings_IndexFunc.den 0 rfl (h' := []) ?_ rfl rfl
    rw [strings_IndexFunc.f_eq (strings_IndexFunc.fx _)]
    simp [d46]
  refine strings_ContainsFunc.den 0 rfl (h' := []) ?_ rfl rfl
  rw [strings_ContainsFunc.f_eq (strings_ContainsFunc.fx _)]
  simp only [List.drop_zero] at hiff
  have : decide (0 ≤ r) = s.any oddB := by
    cases hs : s.any oddB with
    | true => simp [hiff.2 hs]
    | false => simp only [decide_eq_false_iff_not]; intro h0; rw [hiff.1 h0] at hs; cases hs
  simp [d45, this]

/-- A text that may be compared with. -/
def plainS (s : List UInt8) : Bool := decide (s.length ≤ 128) && !s.any oddB
theorem plain_den (s : List UInt8) (h : H) : D 36 [.str s] h = some (.ret (.bool (plainS s)), h) := by
  refine ask_plain.den 0 rfl (h' := []) ?_ rfl rfl
  rw [ask_plain.f_eq (ask_plain.fx _)]
  by_cases h1 : s.length ≤ 128
  · have : (s.length : Int) ≤ 128 := by omega
    simp [this, plainS, h1, containsFunc_den]
  · have : ¬ (s.length : Int) ≤ 128 := by omega
    simp [this, plainS, h1]
theorem none_den (s : List UInt8) (h : H) : D 37 [.str s] h = some (.ret (.bool (decide (s = []))), h) := by
  refine ask_none.den 0 rfl (h' := []) ?_ rfl rfl
  rw [ask_none.f_eq (ask_none.fx _)]
  simp

theorem indexByte_den (s : List UInt8) (c : Int) (h : H) : D 32 [.str s, .int .u8 c] h = some (.ret (.int .i64 (Lib.indexByte s c.toNat.toUInt8)), h) := by
  have d44 : ∀ h, D 44 [.str s, .int .u8 c] h = some (.ret (.int .i64 (Lib.indexByte s c.toNat.toUInt8)), h) := fun h => den_ext (e := indexByte) (by kernel_rfl) rfl
  have d39 : ∀ h, D 39 [.str s, .int .u8 c] h = some (.ret (.int .i64 (Lib.indexByte s c.toNat.toUInt8)), h) := by
    intro h
    refine stringslite_IndexByte.den 0 rfl (h' := []) ?_ rfl rfl
    rw [stringslite_IndexByte.f_eq (stringslite_IndexByte.fx _)]
    simp [d44]
  refine strings_IndexByte.den 0 rfl (h' := []) ?_ rfl rfl
  rw [strings_IndexByte.f_eq (strings_IndexByte.fx _)]
  simp [d39]

def hexB (b : UInt8) : Bool := (decide (48 ≤ b.toNat) && decide (b.toNat ≤ 57)) || (decide (97 ≤ b.toNat) && decide (b.toNat ≤ 102))
def digits : List UInt8 := [48, 49, 50, 51, 52, 53, 54, 55, 56, 57, 97, 98, 99, 100, 101, 102]
theorem digits_index (b : UInt8) : decide (Lib.indexByte digits b < 0) = !hexB b := by
  have : ∀ n : Fin 256, decide (Lib.indexByte digits (UInt8.ofNat n.val) < 0) = !hexB (UInt8.ofNat n.val) := by decide +kernel
  have h := this ⟨b.toNat, b.toNat_lt⟩
  simpa using h
def hexS (s : List UInt8) : Bool := decide (s.length = 16) && s.all hexB

theorem ixStr_at {k : IntKind} (s : List UInt8) (i : Nat) (hi : i < s.length) : ixStr (.str s) (.int k i) = some (.int .u8 (s[i]).toNat) := by
  simp [ixStr, natOf, hi]
theorem toUInt8_of (b : UInt8) : ((b.toNat : Int).toNat.toUInt8) = b := by simp

theorem fnvParse_loop (s : List UInt8) (n : Nat) (hs : s.length = 16) : ∀ (d i m : Nat) (z : Int), i + d = 16 → d < m →
    ∃ z', fnv_Parse.l0 (fnv_Parse.JD n) m (.str s) (.int .u64 z) (.int .i64 16) (.int .i64 i) [] = some (.ret (.tuple [.int .u64 z', .int .i64 (if (s.drop i).all hexB = true then 0 else 190)]), [])
  | 0, i, m + 1, z, hi, _ => by
    rw [fnv_Parse.l0_eq (fnv_Parse.fx n)]
    have : ¬ (i : Int) < 16 := by omega
    exact ⟨z, by simp [this, List.drop_of_length_le (show s.length ≤ i by omega)]⟩
  | d + 1, i, m + 1, z, hi, hm => by
    rw [fnv_Parse.l0_eq (fnv_Parse.fx n)]
    have hil : i < s.length := by omega
    have h1 : (i : Int) < 16 := by omega
    have hd := digits_index s[i]
    rw [List.drop_eq_getElem_cons hil, List.all_cons]
    by_cases hx : hexB s[i] = true
    · obtain ⟨z1, hz1⟩ : ∃ z1, shiftBin .shl .u64 z 4 = some (.int .u64 z1) := ⟨_, rfl⟩
      obtain ⟨z2, hz2⟩ : ∃ z2, intBits .or .u64 z1 (IntKind.wrap .u64 (Lib.indexByte digits s[i])) = some (.int .u64 z2) := ⟨_, rfl⟩
      obtain ⟨z', ih⟩ := fnvParse_loop s n hs d (i + 1) m z2 (by omega) (by omega)
      simp only [Int.natCast_add, Int.cast_ofNat_Int] at ih
      refine ⟨z', ?_⟩
      simp only [hx, Bool.not_true, decide_eq_false_iff_not] at hd
      simp only [digits] at hd hz2
      simp [h1, ixStr_at s i hil, indexByte_den, hd, hz1, hz2, hx, wrap_i64 (show -9223372036854775808 ≤ (i : Int) + 1 by omega) (by omega), ih]
    · refine ⟨0, ?_⟩
      simp only [hx, Bool.not_false, decide_eq_true_eq] at hd
      simp only [digits] at hd
      simp [h1, ixStr_at s i hil, indexByte_den, hd, hx]

theorem fnvParse_den (s : List UInt8) (h : H) : ∃ z, D 43 [.str s] h = some (.ret (.tuple [.int .u64 z, .int .i64 (if hexS s = true then 0 else 190)]), h) := by
  by_cases hs : s.length = 16
  · obtain ⟨z', hl⟩ := fnvParse_loop s 17 hs 16 0 17 0 (by omega) (by omega)
    refine ⟨z', fnv_Parse.den 17 rfl (h' := []) ?_ rfl (by kernel_rfl)⟩
    rw [fnv_Parse.f_eq (fnv_Parse.fx _)]
    have h2 : (s.length : Int) = 16 := by omega
    simp only [Int.cast_ofNat_Int, List.drop_zero] at hl
    simp [h2, hl, hexS, hs]
  · refine ⟨0, fnv_Parse.den 17 rfl (h' := []) ?_ rfl (by kernel_rfl)⟩
    rw [fnv_Parse.f_eq (fnv_Parse.fx _)]
    have h2 : ¬ (s.length : Int) = 16 := by omega
    simp [h2, hexS, hs]
theorem sum_den (s : List UInt8) (h : H) : D 38 [.str s] h = some (.ret (.bool (hexS s)), h) := by
  obtain ⟨z, hz⟩ := fnvParse_den s []
  refine ask_sum.den 0 rfl (h' := []) ?_ rfl rfl
  rw [ask_sum.f_eq (ask_sum.fx _)]
  cases hx : hexS s <;> simp [hz, hx]
end Go.Proofs.Ytigkhjmlomogmaa
