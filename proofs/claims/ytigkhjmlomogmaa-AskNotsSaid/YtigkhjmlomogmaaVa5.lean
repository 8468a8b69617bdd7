/- VE: a law's row out of its value. -/
import Derived.Test.YtigkhjmlomogmaaVa4
import Derived.ChangeShapes
import Derived.RowKit
set_option linter.all false

namespace Go.Ve
open Go Go.ChangeShapes Go.RowKit

/-- Arguments of types of plain data. -/
def ShapeVs (P : Program) (n : Nat) : List TypeId → List AV → Prop
  | [], [] => True
  | t :: ts, v :: vs => ShapeV P n t v ∧ ShapeVs P n ts vs
  | _, _ => False

section
variable {P : Program} {H : Type} {enc : TypeId × Value → H}

theorem trodAll_len {w : World} {b : Nat} {sp : Nat → Bool} {hd : Bool} : ∀ {ts : List TypeId} {vs : List Value} {ds : List (DataW H)} {ps : List MemPlace}, DataW.TrodAll enc P w b sp hd ts vs ds ps → vs.length = ts.length ∧ ds.length = ts.length
  | [], vs, ds, ps, h => by obtain ⟨rfl, rfl, rfl⟩ := trodAll_nil h; exact ⟨rfl, rfl⟩
  | t :: ts, vs, ds, ps, h => by
    obtain ⟨v, vs', d, ds', p, q, rfl, rfl, rfl, _, h2⟩ := trodAll_cons h
    have := trodAll_len h2
    simp [this.1, this.2]

theorem read_args {W : World} {n base : Nat} {r : Reach} : ∀ (ts : List TypeId) (vs : List Value) (ds : List (DataW H)) (ps : List MemPlace), ts.all (plainT P n) = true →
    (∀ (j : Nat) t v, ts[j]? = some t → vs[j]? = some v → Value.okWide P W r base t v) → DataW.TrodAll enc P W 0 (fun _ => true) true ts vs ds ps →
    ∃ avs, ShapeVs P n ts avs ∧ ArgsL W (gOld W) avs vs
  | [], vs, ds, ps, _, _, h => by obtain ⟨rfl, rfl, rfl⟩ := trodAll_nil h; exact ⟨[], trivial, trivial⟩
  | t :: ts, vs, ds, ps, hp, hv, h => by
    obtain ⟨v, vs', d, ds', p, q, rfl, rfl, rfl, h1, h2⟩ := trodAll_cons h
    rw [List.all_cons, Bool.and_eq_true] at hp
    obtain ⟨avs, a1, a2⟩ := read_args ts vs' ds' q hp.2 (fun j t' v' ht hv' => hv (j + 1) t' v' (by simpa using ht) (by simpa using hv')) h2
    have hst : ∀ b k, b < W.heap.size → (gOld W).st b k := fun b k hb => hb
    have hv0 := hv 0 t v rfl rfl
    obtain ⟨av, b1, b2⟩ := read_arg (g := gOld W) hst hp.1 hv0 h1
    exact ⟨av :: avs, ⟨b1, a1⟩, b2, a2⟩

theorem trod_back (hl : laidOutB P = true) {W W' : World} (hb : Below W.heap.size W W') : ∀ (ts : List TypeId) (vs : List Value) (ds : List (DataW H)) (ps : List MemPlace),
    ts.all (fun t => P.readableRec t && decide (t < P.types.size)) = true → DataW.TrodAll enc P W 0 (fun _ => true) true ts vs ds ps →
    DataW.TrodAll enc P W' 0 (fun b => decide (b < W.heap.size)) true ts vs ds ps
  | [], vs, ds, ps, _, h => by obtain ⟨rfl, rfl, rfl⟩ := trodAll_nil h; exact trodAll_mk0
  | t :: ts, vs, ds, ps, hp, h => by
    obtain ⟨v, vs', d, ds', p, q, rfl, rfl, rfl, h1, h2⟩ := trodAll_cons h
    rw [List.all_cons, Bool.and_eq_true, Bool.and_eq_true, decide_eq_true_eq] at hp
    refine trodAll_cons_mk (Below.trod hl hp.1.1 hp.1.2 h1 hb ?_) (trod_back hl hb ts vs' ds' q hp.2 h2)
    obtain ⟨m, hm⟩ := h1
    exact DataW.trod_lt m _ _ _ hm

/-- What a law's row asks of its function. -/
structure LawOk (P : Program) (f : FuncId) (fn : Func) (c : Code) (rt : TypeId) : Prop where
  hl : laidOutB P = true
  hf : P.funcs[f]? = some fn
  hb : fn.body = some c
  hok : resOk fn = true
  hp : fn.params.toList.all (plainT P 50) = true
  hr : fn.params.toList.all (fun t => P.readableRec t && decide (t < P.types.size)) = true
  res : fn.resultTypes.toList = [rt]
  bool : P.underlying rt = some .bool

theorem law_contract {f : FuncId} {fn : Func} {c : Code} {rt : TypeId} {s : ChangeSpec} {pol : Pol} (hpol : PolOk P pol) (ok : LawOk P f fn c rt)
    (hs : ∀ ds : List (DataW H), ds.length = fn.params.toList.length → s.fn H ds = { results := [.lit (.bool true)], args := ds }) (hv : s.vars = []) {W : World} {base : Nat} {args : Array Value} {ds gs : List (DataW H)} {before : List MemPlace}
    (law : ∀ avs, ShapeVs P 50 fn.params.toList avs → ∃ h', den P pol f avs [] = some (.ret (.bool true), h'))
    (hval : ∀ (j : Nat) t v, fn.params[j]? = some t → args[j]? = some v → Value.okWide P W .any base t v) (hW : DataW.Whole enc P fn.params.toList s.vars false W args.toList ds gs before) :
    Calls P f args W fun e W' => ∃ v, e = .returned v ∧ s.post enc P fn false true false false W args v W' := by
  have hW' := hW
  obtain ⟨p, q, hA, hV, rfl, hfz, hnd⟩ := hW
  rw [hv] at hV
  obtain ⟨rfl, rfl⟩ := trodVars_none hV
  obtain ⟨avs, h1, h2⟩ := read_args fn.params.toList args.toList ds p ok.hp (fun j t v ht hv => hval j t v (by rw [← Array.getElem?_toList]; exact ht) (by rw [← Array.getElem?_toList]; exact hv)) hA
  refine (law_calls hpol ok.hf ok.hb ok.hok h2 (law avs h1)).mono fun e W' ⟨he, bel⟩ => ?_
  subst he
  have e1 := hs (ds ++ []) (by rw [List.append_nil]; exact (trodAll_len hA).2)
  refine ⟨_, rfl, ds, [], _, [], p, [], hW', ?_, ?_, ?_, bel.frame _, fun h => by cases h⟩
  · rw [e1, ok.res]
    have e2 : fn.resultTypes.size = 1 := by rw [← Array.length_toList, ok.res]; rfl
    rw [e2]
    exact trodAll_mk1 (shut_bool ok.bool _)
  · rw [e1, List.append_nil]
    exact trod_back ok.hl bel _ _ _ _ ok.hr hA
  · rw [e1, hv]
    rfl
end

section
variable {P : Program} {n : Nat} {t : TypeId}
theorem shapeV_one {v : AV} (ha : isAgg P t = false) (h : ShapeV P n t v) : Shape P n t [v] := by
  unfold ShapeV at h
  rw [ha] at h
  exact h
theorem shapeV_agg {v : AV} (ha : isAgg P t = true) (h : ShapeV P n t v) : ∃ avs, v = .agg avs ∧ Shape P n t avs := by
  unfold ShapeV at h
  rw [ha] at h
  exact h
theorem shape_slice {e : TypeId} {avs : List AV} (hu : P.underlying t = some (.slice e)) (h : Shape P (n + 1) t avs) : ∃ rows, avs = [.list rows .no] ∧ rows.length ≤ maxLen ∧ ∀ r ∈ rows, Shape P n e r := by
  unfold Shape at h; rw [hu] at h; exact h
theorem shape_struct {fs : Array Field} {avs : List AV} (hu : P.underlying t = some (.struct fs)) (h : Shape P (n + 1) t avs) : ShapeFs (Shape P n) fs.toList avs := by
  unfold Shape at h; rw [hu] at h; exact h
theorem shape_int {k : IntKind} {avs : List AV} (hu : P.underlying t = some (.int k)) (h : Shape P (n + 1) t avs) : ∃ z, avs = [.int k z] ∧ k.min ≤ z ∧ z ≤ k.max := by
  unfold Shape at h; rw [hu] at h; exact h
theorem shape_string {avs : List AV} (hu : P.underlying t = some .string) (h : Shape P (n + 1) t avs) : ∃ s : List UInt8, avs = [.str s] ∧ s.length ≤ maxLen := by
  unfold Shape at h; rw [hu] at h; exact h
theorem shape_bool {avs : List AV} (hu : P.underlying t = some .bool) (h : Shape P (n + 1) t avs) : ∃ b, avs = [.bool b] := by
  unfold Shape at h; rw [hu] at h; exact h
/-- Rows of a shape are those of things. -/
theorem rows_map {α : Type} {c : α → List AV} {Q : List AV → Prop} : ∀ {rows : List (List AV)}, (∀ r ∈ rows, Q r) → (∀ r, Q r → ∃ x, r = c x) → ∃ l : List α, rows = l.map c
  | [], _, _ => ⟨[], rfl⟩
  | r :: rs, h, hq => by
    obtain ⟨x, rfl⟩ := hq r (h r (by simp))
    obtain ⟨l, rfl⟩ := rows_map (rows := rs) (fun r' h' => h r' (by simp [h'])) hq
    exact ⟨x :: l, rfl⟩
theorem shapeVs1 {t : TypeId} {avs : List AV} (h : ShapeVs P n [t] avs) : ∃ a, avs = [a] ∧ ShapeV P n t a := by
  match avs, h with
  | [a], ⟨h1, _⟩ => exact ⟨a, rfl, h1⟩
  | [], h => exact h.elim
  | _ :: _ :: _, ⟨_, h⟩ => exact h.elim
theorem shapeVs2 {t u : TypeId} {avs : List AV} (h : ShapeVs P n [t, u] avs) : ∃ a b, avs = [a, b] ∧ ShapeV P n t a ∧ ShapeV P n u b := by
  match avs, h with
  | a :: r, ⟨h1, h2⟩ => obtain ⟨b, rfl, h3⟩ := shapeVs1 h2; exact ⟨a, b, rfl, h1, h3⟩
  | [], h => exact h.elim
theorem shapeVs3 {t u x : TypeId} {avs : List AV} (h : ShapeVs P n [t, u, x] avs) : ∃ a b c, avs = [a, b, c] ∧ ShapeV P n t a ∧ ShapeV P n u b ∧ ShapeV P n x c := by
  match avs, h with
  | a :: r, ⟨h1, h2⟩ => obtain ⟨b, c, rfl, h3⟩ := shapeVs2 h2; exact ⟨a, b, c, rfl, h1, h3⟩
  | [], h => exact h.elim
end
end Go.Ve
