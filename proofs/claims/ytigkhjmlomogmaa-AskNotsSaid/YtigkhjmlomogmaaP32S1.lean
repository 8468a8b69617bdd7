/- What the functions of the filters' layer come to: 1. -/
import Derived.Test.YtigkhjmlomogmaaP32Ext
import Derived.Test.YtigkhjmlomogmaaVa4
set_option linter.all false

open Go Go.Ve Go.Proofs
namespace Go.Proofs.Ytigkhjmlomogmaa
set_option maxRecDepth 100000

structure Term where
  op : Int
  field : Int
  rel : Int
  num : Int
  text : List UInt8
  deriving DecidableEq
def Term.c (t : Term) : List AV := [.int .i64 t.op, .int .i64 t.field, .int .i64 t.rel, .int .i64 t.num, .str t.text]
@[simp] theorem Term.c_len (t : Term) : t.c.length = 5 := by simp [Term.c]
@[simp] theorem Term.c_pure (t : Term) : pureL t.c = true := by simp [Term.c]
@[simp] theorem Term.c_one (t : Term) : t.c.all AV.one = true := by simp [Term.c]
@[simp] theorem Term.c_copy (t : Term) : t.c.map AV.copyCell = t.c := rfl
@[simp] theorem Term.c_canon (t : Term) : t.c.map AV.canonCell = t.c := rfl
@[simp high] theorem Term.c0 (t : Term) : t.c[0]? = some (.int .i64 t.op) := rfl
@[simp high] theorem Term.c1 (t : Term) : t.c[1]? = some (.int .i64 t.field) := rfl
@[simp high] theorem Term.c2 (t : Term) : t.c[2]? = some (.int .i64 t.rel) := rfl
@[simp high] theorem Term.c3 (t : Term) : t.c[3]? = some (.int .i64 t.num) := rfl
@[simp high] theorem Term.c4 (t : Term) : t.c[4]? = some (.str t.text) := rfl
@[simp] theorem Term.agg (t : Term) : aggAt 5 t.c 0 = some (.agg t.c) := aggAt_all rfl
@[simp] theorem Term.l_pure (l : List Term) : pureR (l.map Term.c) = true := pureR_map Term.c_pure
/-- A list of terms. -/
abbrev TL (l : List Term) (o : Own := .no) : AV := .list (l.map Term.c) o

/-- The document's answers. -/
def large (l : List Term) : Bool := decide (200 < l.length) || l.any fun t => decide (300 < t.text.length)

theorem Large_loop (l : List Term) (h : H) (hl : l.length ≤ 200) (n : Nat) : ∀ (d i m : Nat), i + d = l.length → d < m →
    warrantorref32_Large.l0 (warrantorref32_Large.JD n) m (TL l) (.int .i64 i) h = some (.ret (.bool ((l.drop i).any fun t => decide (300 < t.text.length))), h)
  | 0, i, m + 1, hi, _ => by
    rw [warrantorref32_Large.l0_eq (warrantorref32_Large.fx n)]
    have : ¬ ((i : Int) < l.length) := by omega
    simp [this, List.drop_of_length_le (show l.length ≤ i by omega)]
  | d + 1, i, m + 1, hi, hm => by
    rw [warrantorref32_Large.l0_eq (warrantorref32_Large.fx n)]
    have hil : i < l.length := by omega
    have h1 : (i : Int) < l.length := by omega
    have ih := Large_loop l h hl n d (i + 1) m (by omega) (by omega)
    simp only [Int.natCast_add, Int.cast_ofNat_Int] at ih
    rw [List.drop_eq_getElem_cons hil, List.any_cons]
    by_cases h2 : 300 < l[i].text.length
    · have h2' : (300 : Int) < l[i].text.length := by omega
      simp [h1, ixSlice_map hil Term.c_len, h2, h2']
    · have h2' : ¬ (300 : Int) < l[i].text.length := by omega
      simp [h1, ixSlice_map hil Term.c_len, wrap_i64 (show -9223372036854775808 ≤ (i : Int) + 1 by omega) (by omega), ih, h2, h2']
theorem Large_den (l : List Term) (h : H) : D 6 [TL l] h = some (.ret (.bool (large l)), h) := by
  refine warrantorref32_Large.den (l.length + 1) (by simp) (h' := []) ?_ rfl rfl
  rw [warrantorref32_Large.f_eq (warrantorref32_Large.fx _)]
  by_cases h1 : 200 < l.length
  · have : (200 : Int) < l.length := by omega
    simp [this, large, h1]
  · have : ¬ (200 : Int) < l.length := by omega
    have ih := Large_loop l [] (by omega) (l.length + 1) l.length 0 (l.length + 1) (by omega) (by omega)
    simp only [Int.cast_ofNat_Int, List.drop_zero] at ih
    simp [this, large, h1, ih]
end Go.Proofs.Ytigkhjmlomogmaa
