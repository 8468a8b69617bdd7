/- What the functions of the filters' layer come to: 3: comparisons, and what a term is about. -/
import Derived.Test.YtigkhjmlomogmaaP32S2
set_option linter.all false

open Go Go.Ve Go.Proofs
namespace Go.Proofs.Ytigkhjmlomogmaa
set_option maxRecDepth 100000

/-- What a field may be compared with: bounds of numbers, how, with which texts (0: none, 1: plain, 2: a sum). -/
structure Shp where
  least : Int
  most : Int
  rels : List UInt8
  text : Nat
def textF : Nat → AV
  | 0 => .func (.func 37) [] []
  | 1 => .func (.func 36) [] []
  | _ => .func (.func 38) [] []
def textB : Nat → List UInt8 → Bool
  | 0, s => decide (s = [])
  | 1, s => plainS s
  | _, s => hexS s
def Shp.c (s : Shp) : List AV := [.int .i64 s.least, .int .i64 s.most, .str s.rels, textF s.text]
def shp (f : Int) : Shp :=
  if f = 1 ∨ f = 3 then ⟨1, 3, [1], 0⟩ else if f = 2 then ⟨1, 2, [1], 0⟩ else if f = 4 ∨ f = 5 then ⟨0, 1048576, [1, 4, 5], 0⟩
  else if f = 10 then ⟨0, 0, [1], 2⟩ else ⟨0, 0, [1, 2, 3], 1⟩
def shapesV : List AV := [.int .i64 0, .int .i64 0, .str [], .nilFunc] ++ ([1, 2, 3, 4, 5, 6, 7, 8, 9, 10].map fun f => (shp f).c).flatten

theorem shapes_den (h : H) : D 31 [] h = some (.ret (.agg shapesV), h) := by
  refine ask_shapes.den 0 rfl (h' := [.arr shapesV false, .arr (shp 6).c false, .arr (shp 4).c false]) ?_ (by decide +kernel) rfl
  rw [ask_shapes.f_eq (ask_shapes.fx _)]
  rfl
theorem shapes_at (f : Int) (h1 : 1 ≤ f) (h2 : f ≤ 10) : ixAgg true 4 11 (.agg shapesV) (.int .i64 f) = some (.agg (shp f).c) := by
  have : f = 1 ∨ f = 2 ∨ f = 3 ∨ f = 4 ∨ f = 5 ∨ f = 6 ∨ f = 7 ∨ f = 8 ∨ f = 9 ∨ f = 10 := by omega
  rcases this with rfl | rfl | rfl | rfl | rfl | rfl | rfl | rfl | rfl | rfl <;> rfl

theorem text_call (k : Nat) (s : List UInt8) (h : H) : callVal D h (textF k) [.str s] = some (.ret (.bool (textB k s)), h) := by
  match k with
  | 0 => simp [textF, textB, callVal, none_den]
  | 1 => simp [textF, textB, callVal, plain_den]
  | k + 2 => simp [textF, textB, callVal, sum_den]

/-- Is a term a comparison. -/
def cmpB (t : Term) : Bool :=
  decide (t.op = 2) && decide (1 ≤ t.field) && decide (t.field ≤ 10) && decide (1 ≤ t.rel) && decide (t.rel ≤ 5) &&
    decide (UInt8.ofNat t.rel.toNat ∈ (shp t.field).rels) && decide ((shp t.field).least ≤ t.num) && decide (t.num ≤ (shp t.field).most) && textB (shp t.field).text t.text

theorem indexByte_mem (l : List UInt8) (c : UInt8) : 0 ≤ Lib.indexByte l c ↔ c ∈ l := by
  induction l with
  | nil => simp [Lib.indexByte]
  | cons b l ih =>
    unfold Lib.indexByte
    by_cases hb : b = c
    · simp [hb]
    · have hge := Lib.indexByte_ge l c
      have hcb : ¬ c = b := fun h => hb h.symm
      simp only [beq_iff_eq, hb, if_false, List.mem_cons, hcb, false_or, ← ih]
      split <;> omega

theorem compares_den (t : Term) (h : H) : D 27 [.agg t.c] h = some (.ret (.bool (cmpB t)), h) := by
  have key : ∃ h', ask_compares.f (ask_compares.JD 0) (.agg t.c) [] = some (.ret (.bool (cmpB t)), h') := by
    rw [ask_compares.f_eq (ask_compares.fx _)]
    by_cases h1 : t.op = 2
    case neg => exact ⟨_, by simp [h1, cmpB, ask_compares.j1_eq (ask_compares.fx 0)]; rfl⟩
    by_cases h2 : t.field < 1
    · exact ⟨_, by simp [h1, h2, cmpB, ask_compares.j1_eq (ask_compares.fx 0), show ¬ 1 ≤ t.field by omega]; rfl⟩
    by_cases h3 : 10 < t.field
    · exact ⟨_, by simp [h1, h2, h3, cmpB, ask_compares.j1_eq (ask_compares.fx 0), show ¬ t.field ≤ 10 by omega]; rfl⟩
    by_cases h4 : t.rel < 1
    · exact ⟨_, by simp [h1, h2, h3, h4, cmpB, ask_compares.j1_eq (ask_compares.fx 0), show ¬ 1 ≤ t.rel by omega]; rfl⟩
    by_cases h5 : 5 < t.rel
    · exact ⟨_, by simp [h1, h2, h3, h4, h5, cmpB, ask_compares.j1_eq (ask_compares.fx 0), show ¬ t.rel ≤ 5 by omega]; rfl⟩
    have e1 : 1 ≤ t.field := by omega
    have e2 : t.field ≤ 10 := by omega
    have e3 : 1 ≤ t.rel := by omega
    have e4 : t.rel ≤ 5 := by omega
    have hc : ∀ x y : Int, Shp.c (shp t.field) = [.int .i64 (shp t.field).least, .int .i64 (shp t.field).most, .str (shp t.field).rels, textF (shp t.field).text] := fun _ _ => rfl
    have htx : (textF (shp t.field).text).one = true := by unfold textF; split <;> rfl
    have htc : (textF (shp t.field).text).copyCell = textF (shp t.field).text := by unfold textF; split <;> rfl
    have hw : IntKind.wrap .u8 t.rel = t.rel := wrap_u8 (by omega) (by omega)
    have hrel := indexByte_mem (shp t.field).rels (UInt8.ofNat t.rel.toNat)
    by_cases h6 : 0 ≤ Lib.indexByte (shp t.field).rels (UInt8.ofNat t.rel.toNat)
    case neg =>
      refine ⟨[.arr t.c false, .arr (shp t.field).c false], ?_⟩
      have hm : ¬ UInt8.ofNat t.rel.toNat ∈ (shp t.field).rels := fun h => h6 (hrel.2 h)
      simp [h1, h2, h3, h4, h5, e1, e2, e3, e4, cmpB, ask_compares.j1_eq (ask_compares.fx 0), ask_compares.j0_eq (ask_compares.fx 0), shapes_den, shapes_at t.field e1 e2, hc 0 0, stN, splice, htx, htc, hw, indexByte_den, h6, hm]
    by_cases h7 : (shp t.field).least ≤ t.num
    case neg =>
      refine ⟨[.arr t.c false, .arr (shp t.field).c false], ?_⟩
      simp [h1, h2, h3, h4, h5, e1, e2, e3, e4, cmpB, ask_compares.j1_eq (ask_compares.fx 0), ask_compares.j0_eq (ask_compares.fx 0), shapes_den, shapes_at t.field e1 e2, hc 0 0, stN, splice, htx, htc, hw, indexByte_den, h6, h7, show t.num < (shp t.field).least by omega]
    by_cases h8 : t.num ≤ (shp t.field).most
    case neg =>
      refine ⟨[.arr t.c false, .arr (shp t.field).c false], ?_⟩
      simp [h1, h2, h3, h4, h5, e1, e2, e3, e4, cmpB, ask_compares.j1_eq (ask_compares.fx 0), ask_compares.j0_eq (ask_compares.fx 0), shapes_den, shapes_at t.field e1 e2, hc 0 0, stN, splice, htx, htc, hw, indexByte_den, h6, h7, h8]
    refine ⟨[.arr t.c false, .arr (shp t.field).c false], ?_⟩
    have hm := hrel.1 h6
    simp [h1, h2, h3, h4, h5, e1, e2, e3, e4, cmpB, ask_compares.j1_eq (ask_compares.fx 0), ask_compares.j0_eq (ask_compares.fx 0), shapes_den, shapes_at t.field e1 e2, hc 0 0, stN, splice, htx, htc, hw, indexByte_den, h6, h7, h8, text_call, hm]
  obtain ⟨h', hk⟩ := key
  exact ask_compares.den 0 rfl hk rfl rfl
end Go.Proofs.Ytigkhjmlomogmaa
