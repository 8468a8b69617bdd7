import Derived.Test.YtdggnlgklicbdaaVa4
import Derived.ChangeArms
import Derived.OpenShut
import Derived.Below
import Derived.ChangeOld
import Derived.DataElems
import Derived.ProofKit
import Derived.SizedLaws
import Derived.Carry
import Derived.Shelf.Spec.SlicesGrow
import Derived.Lib.Bytealg
import Derived.Laws.Externs
import Derived.ChangeShapes
import Derived.RowKit
import Derived.Lib.SlicesCompact
import Derived.Laws.AppendOwn
import Derived.Shelf.Strconv.Clone
set_option linter.all false
namespace Go.Ve
open Go
def gOld (w : World) : Gh := ⟨fun _ => none, fun b _ => b < w.heap.size, fun _ => False⟩
theorem gOld_hr (w : World) : HR w (gOld w) [] where
  obj id o h := by simp at h
  inj b b' id h := nomatch h
  lt b l h := nomatch h
  bd b id h := nomatch h
  stlt b k h := h
  rsv _ _ h := by cases h
  rlt _ h := False.elim h
def tiles (P : Program) : List Field → Nat → Nat → Bool
  | [], o, n => Nat.beq o n
  | f :: fs, o, n => Nat.beq f.offset o && tiles P fs (o + P.cellsOf f.type) n
def plainT (P : Program) : Nat → TypeId → Bool
  | 0, _ => false
  | n + 1, t =>
    match P.underlying t with
    | some .bool | some (.int _) | some .string => true
    | some (.slice e) => plainT P n e && Nat.blt 0 (P.cellsOf e)
    | some (.struct fs) => tiles P fs.toList 0 (P.cellsOf t) && fs.toList.all fun f => plainT P n f.type
    | some (.array m e) => plainT P n e && Nat.beq (P.cellsOf t) (m * P.cellsOf e)
    | _ => false
def ShapeFs (S : TypeId → List AV → Prop) : List Field → List AV → Prop
  | [], avs => avs = []
  | f :: fs, avs => ∃ a b, avs = a ++ b ∧ S f.type a ∧ ShapeFs S fs b
def Shape (P : Program) : Nat → TypeId → List AV → Prop
  | 0, _, _ => False
  | n + 1, t, avs =>
    match P.underlying t with
    | some .bool => ∃ b, avs = [.bool b]
    | some (.int k) => ∃ z, avs = [.int k z] ∧ k.min ≤ z ∧ z ≤ k.max
    | some .string => ∃ s : List UInt8, avs = [.str s] ∧ s.length ≤ maxLen
    | some (.slice e) => ∃ rows, avs = [.list rows .no] ∧ rows.length ≤ maxLen ∧ ∀ r ∈ rows, Shape P n e r
    | some (.struct fs) => ShapeFs (Shape P n) fs.toList avs
    | some (.array m e) => ∃ rows : List (List AV), avs = rows.flatten ∧ rows.length = m ∧ ∀ r ∈ rows, Shape P n e r
    | _ => False
section
variable {P : Program} {w : World} {g : Gh} {H : Type} {enc : TypeId × Value → H} {base : Nat} {spare : Nat → Bool} {held : Bool}
def RepL (w : World) (g : Gh) (avs : List AV) (cs : List Value) : Prop := avs.length = cs.length ∧ ∀ (j : Nat) a c, avs[j]? = some a → cs[j]? = some c → a.one = true ∧ Rep w g wh0 a c
theorem RepL.nil : RepL w g [] [] := ⟨rfl, by simp⟩
theorem RepL.one {a : AV} {c : Value} (h1 : a.one = true) (h : Rep w g wh0 a c) : RepL w g [a] [c] := by
  refine ⟨rfl, fun j x y hx hy => ?_⟩
  cases j with
  | zero => simp at hx hy; subst hx; subst hy; exact ⟨h1, h⟩
  | succ j => simp at hx
theorem RepL.append {a b : List AV} {c d : List Value} (h1 : RepL w g a c) (h2 : RepL w g b d) : RepL w g (a ++ b) (c ++ d) := by
  refine ⟨by simp [h1.1, h2.1], fun j x y hx hy => ?_⟩
  by_cases hj : j < a.length
  · rw [List.getElem?_append_left hj] at hx
    rw [List.getElem?_append_left (by rw [← h1.1]; exact hj)] at hy
    exact h1.2 j x y hx hy
  · rw [List.getElem?_append_right (by omega)] at hx
    rw [List.getElem?_append_right (by rw [← h1.1]; omega), ← h1.1] at hy
    exact h2.2 _ x y hx hy
theorem mapM_range {α : Type} {n : Nat} {f : Nat → Option α} {m : List α} (h : (List.range n).mapM f = some m) : m.length = n ∧ ∀ j y, m[j]? = some y → f j = some y := by
  obtain ⟨h1, h2⟩ := mapM_get h
  refine ⟨by simpa using h1, fun j y hj => ?_⟩
  obtain ⟨x, h3, h4⟩ := h2 j y hj
  have := (List.getElem?_eq_some_iff.1 h3).2
  simp at this
  subst this
  exact h4
theorem cells_some {a : Addr} {n : Nat} {cs : List Value} (h : w.cells? base a n = some cs) : cs.length = n ∧ ∀ (j : Nat) c, cs[j]? = some c → w.cell? (a.add j) = some c := by
  unfold World.cells? at h
  split at h
  · exact mapM_range h
  · cases h
theorem cell_lt {a : Addr} {c : Value} (h : w.cell? a = some c) : a.block < w.heap.size ∧ a.spot = none := by
  unfold World.cell? at h
  split at h
  · rename_i hb
    split at h
    · cases h
    · rename_i hs
      exact ⟨(Array.getElem?_eq_some_iff.1 hb).1, by simpa using hs⟩
  · cases h
theorem tiles_read {S : TypeId → List AV → Prop} {cs : List Value} : ∀ (fs : List Field) (o : Nat), tiles P fs o cs.length = true → o ≤ cs.length →
    (∀ f ∈ fs, ∃ avs, S f.type avs ∧ RepL w g avs ((cs.drop f.offset).take (P.cellsOf f.type))) → ∃ avs, ShapeFs S fs avs ∧ RepL w g avs (cs.drop o)
  | [], o, h, _, _ => by
    have := Nat.eq_of_beq_eq_true h
    subst this
    exact ⟨[], rfl, by simp [RepL.nil]⟩
  | f :: fs, o, h, ho, hf => by
    simp only [tiles, Bool.and_eq_true] at h
    have e := Nat.eq_of_beq_eq_true h.1
    obtain ⟨a, h1, h2⟩ := hf f (by simp)
    have hle : o + P.cellsOf f.type ≤ cs.length := by
      have key : ∀ (fs : List Field) (o n : Nat), tiles P fs o n = true → o ≤ n := by
        intro fs
        induction fs with
        | nil => intro o n h; have := Nat.eq_of_beq_eq_true h; omega
        | cons f fs ih =>
          intro o n h
          simp only [tiles, Bool.and_eq_true] at h
          have := ih _ _ h.2
          omega
      exact key _ _ _ h.2
    obtain ⟨b, h3, h4⟩ := tiles_read fs (o + P.cellsOf f.type) h.2 hle fun f' hf' => hf f' (by simp [hf'])
    refine ⟨a ++ b, ⟨a, b, rfl, h1, h3⟩, ?_⟩
    rw [e] at h2
    have := h2.append h4
    rwa [← List.drop_drop, List.take_append_drop] at this
theorem read_cells (hst : ∀ b k, b < w.heap.size → g.st b k) : ∀ (n fuel : Nat) (t : TypeId) (cs : List Value) (x : DataW H × List MemPlace), plainT P n t = true → DataW.trod enc P w base spare held fuel t cs = some x →
    ∃ avs, Shape P n t avs ∧ RepL w g avs cs := by
  intro n
  induction n with
  | zero => intro fuel t cs x h; simp [plainT] at h
  | succ n ih =>
    intro fuel t cs x hp hx
    unfold plainT at hp
    split at hp
    · rename_i ht
      obtain ⟨b, rfl, _⟩ := DataW.trod_bool ht hx
      exact ⟨[.bool b], by simp [Shape, ht], .one rfl .bool⟩
    · rename_i k ht
      obtain ⟨z, rfl, _, hwf⟩ := DataW.trod_int ht hx
      simp only [Lit.wf, Bool.and_eq_true, decide_eq_true_eq] at hwf
      exact ⟨[.int k z], by simp only [Shape, ht]; exact ⟨z, rfl, hwf.1, hwf.2⟩, .one rfl .int⟩
    · rename_i ht
      obtain ⟨s, rfl, _, hl⟩ := DataW.trod_string ht hx
      refine ⟨[.str s.data.toList], by simp only [Shape, ht]; exact ⟨_, rfl, by rw [Array.length_toList]; exact hl⟩, .one rfl ?_⟩
      have := Rep.str (w := w) (g := g) (wh := wh0) (l := s.data.toList)
      simpa using this
    · rename_i e ht
      simp only [Bool.and_eq_true] at hp
      have hpos : 0 < P.cellsOf e := Nat.le_of_ble_eq_true hp.2
      rcases DataW.trod_slice ht hx with ⟨rfl, _⟩ | ⟨a, len, cap, elems, rest, f, _, rfl, _, _, hlc, hcm, hel, hget, _, _⟩
      · refine ⟨[.list [] .no], by simp only [Shape, ht]; exact ⟨[], rfl, Nat.zero_le _, by simp⟩, .one rfl ?_⟩
        exact .list 0 0 0 (fun _ _ => undef) rfl (Nat.le_refl _) (by simp) (by simp) (by simp) (by simp) trivial
      · have each : ∀ i, i < len → ∃ r, Shape P n e r ∧ ∃ cs, w.cells? base (a.add (i * P.cellsOf e)) (P.cellsOf e) = some cs ∧ RepL w g r cs := by
          intro i hi
          have h := hget i hi
          have h1 : i < elems.length := by omega
          rw [List.getElem?_eq_getElem h1, Option.bind_eq_some_iff] at h
          obtain ⟨cs, h2, h3⟩ := h
          obtain ⟨r, h4, h5⟩ := ih f e cs _ hp.1 h3
          exact ⟨r, h4, cs, h2, h5⟩
        have hrows : ∃ rows : List (List AV), rows.length = len ∧ ∀ (i : Nat) r, rows[i]? = some r → Shape P n e r ∧ ∃ cs, w.cells? base (a.add (i * P.cellsOf e)) (P.cellsOf e) = some cs ∧ RepL w g r cs := by
          have key : ∀ m, m ≤ len → ∃ rows : List (List AV), rows.length = m ∧ ∀ (i : Nat) r, rows[i]? = some r → Shape P n e r ∧ ∃ cs, w.cells? base (a.add (i * P.cellsOf e)) (P.cellsOf e) = some cs ∧ RepL w g r cs := by
            intro m
            induction m with
            | zero => intro _; exact ⟨[], rfl, by simp⟩
            | succ m ihm =>
              intro hm
              obtain ⟨rows, h1, h2⟩ := ihm (by omega)
              obtain ⟨r, h3, h4⟩ := each m (by omega)
              refine ⟨rows ++ [r], by simp [h1], fun i r' hr' => ?_⟩
              by_cases hi : i < rows.length
              · rw [List.getElem?_append_left hi] at hr'
                exact h2 i r' hr'
              · have : i = m := by
                  have := (List.getElem?_eq_some_iff.1 hr').1
                  simp at this; omega
                subst this
                rw [List.getElem?_append_right (by omega), h1] at hr'
                simp at hr'
                subst hr'
                exact ⟨h3, h4⟩
          exact key len (Nat.le_refl _)
        obtain ⟨rows, hlen, hr⟩ := hrows
        refine ⟨[.list rows .no], ?_, .one rfl ?_⟩
        · simp only [Shape, ht]
          refine ⟨rows, rfl, by omega, fun r hrm => ?_⟩
          obtain ⟨i, hi⟩ := List.getElem?_of_mem hrm
          exact (hr i r hi).1
        · have cellOf : ∀ (i : Nat) r (j : Nat) cl, rows[i]? = some r → r[j]? = some cl → ∃ v, w.cell? (a.add (i * P.cellsOf e + j)) = some v ∧ cl.one = true ∧ Rep w g wh0 cl v := by
            intro i r j cl hi hj
            obtain ⟨_, cs, h1, h2⟩ := hr i r hi
            have hjl : j < cs.length := by rw [← h2.1]; exact (List.getElem?_eq_some_iff.1 hj).1
            have h3 : cs[j]? = some cs[j] := by simp
            obtain ⟨h4, h5⟩ := h2.2 j cl _ hj h3
            have := (cells_some h1).2 j _ h3
            rw [Addr.add_add] at this
            exact ⟨_, this, h4, h5⟩
          have rowlen : ∀ r ∈ rows, r.length = P.cellsOf e := by
            intro r hrm
            obtain ⟨i, hi⟩ := List.getElem?_of_mem hrm
            obtain ⟨_, cs, h1, h2⟩ := hr i r hi
            rw [h2.1, (cells_some h1).1]
          have addr : rows ≠ [] → a = ⟨a.block, a.off, none⟩ := by
            intro hne
            obtain ⟨r, rs, hrs⟩ := List.exists_cons_of_ne_nil hne
            have h0 : rows[0]? = some r := by rw [hrs]; rfl
            have hl := rowlen r (by rw [hrs]; simp)
            obtain ⟨v, hv, _⟩ := cellOf 0 r 0 r[0] h0 (by simp)
            have := (cell_lt hv).2
            simp only [Nat.zero_mul, Nat.add_zero, Addr.add, if_true] at this
            cases a
            simp at this ⊢
            exact this
          refine .list a.block a.off (P.cellsOf e) (fun i j => (w.cell? (a.add (i * P.cellsOf e + j))).getD undef) hlen.symm (by omega) (fun hne => congrArg some (addr hne)) rowlen ?_ ?_ trivial
          · intro i r j cl hi hj
            obtain ⟨v, h1, h2, h3⟩ := cellOf i r j cl hi hj
            have hne : rows ≠ [] := by rintro rfl; simp at hi
            have hb := (cell_lt h1).1
            have hadd : a.add (i * P.cellsOf e + j) = ⟨a.block, a.off + (i * P.cellsOf e + j), none⟩ := by
              rw [addr hne]; exact Addr.add_lit _ _ _
            rw [hadd] at hb
            refine ⟨h2, hst _ _ hb, ?_⟩
            rw [h1, Option.getD_some, ← h1, hadd, Nat.add_assoc]
          · intro i r j cl hi hj
            obtain ⟨v, h1, h2, h3⟩ := cellOf i r j cl hi hj
            rw [h1, Option.getD_some]
            exact h3
    · rename_i fs ht
      simp only [Bool.and_eq_true, List.all_eq_true] at hp
      obtain ⟨xs, f, _, _, hcl, hxl, hget⟩ := DataW.trod_struct ht hx
      rw [← hcl] at hp
      obtain ⟨avs, h1, h2⟩ := tiles_read (g := g) (S := Shape P n) fs.toList 0 hp.1 (Nat.zero_le _) (fun fld hf => by
        obtain ⟨i, hi⟩ := List.getElem?_of_mem hf
        rw [Array.getElem?_toList] at hi
        have h3 := hget i fld hi
        have hil : i < xs.length := by rw [hxl]; exact (Array.getElem?_eq_some_iff.1 hi).1
        rw [List.getElem?_eq_getElem hil] at h3
        exact ih f _ _ _ (hp.2 fld hf) h3)
      refine ⟨avs, by simp only [Shape, ht]; exact h1, by simpa using h2⟩
    · rename_i m e ht
      simp only [Bool.and_eq_true] at hp
      have hsz := Nat.eq_of_beq_eq_true hp.2
      obtain ⟨xs, f, _, _, hcl, hxl, hget⟩ := DataW.trod_array ht hx
      have key : ∀ k, k ≤ m → ∃ rows : List (List AV), rows.length = k ∧ (∀ r ∈ rows, Shape P n e r) ∧ RepL w g rows.flatten (cs.take (k * P.cellsOf e)) := by
        intro k
        induction k with
        | zero => intro _; exact ⟨[], rfl, by simp, by simp [RepL.nil]⟩
        | succ k ihk =>
          intro hk
          obtain ⟨rows, h1, h2, h3⟩ := ihk (by omega)
          have h4 := hget k (by omega)
          have hil : k < xs.length := by omega
          rw [List.getElem?_eq_getElem hil] at h4
          obtain ⟨r, h5, h6⟩ := ih f e _ _ hp.1 h4
          refine ⟨rows ++ [r], by simp [h1], fun r' hr' => ?_, ?_⟩
          · rcases List.mem_append.1 hr' with h | h
            · exact h2 r' h
            · simp at h; subst h; exact h5
          · have := h3.append h6
            rw [List.flatten_append, List.flatten_singleton, Nat.succ_mul, List.take_add]
            exact this
      obtain ⟨rows, h1, h2, h3⟩ := key m (Nat.le_refl _)
      refine ⟨rows.flatten, by simp only [Shape, ht]; exact ⟨rows, rfl, h1, h2⟩, ?_⟩
      rwa [← hsz, ← hcl, List.take_length] at h3
    · cases hp
def ShapeV (P : Program) (n : Nat) (t : TypeId) (v : AV) : Prop := if isAgg P t then ∃ avs, v = .agg avs ∧ Shape P n t avs else Shape P n t [v]
theorem read_arg (hst : ∀ b k, b < w.heap.size → g.st b k) {n : Nat} {t : TypeId} {v : Value} {d : DataW H} {ps : List MemPlace} {r : Reach} {base' : Nat} (hp : plainT P n t = true) (hv : Value.okWide P w r base' t v)
    (hx : DataW.Trod enc P w base spare held t v d ps) : ∃ av, ShapeV P n t av ∧ Rep w g wh0 av v := by
  obtain ⟨fuel, hx⟩ := hx
  obtain ⟨avs, h1, h2⟩ := read_cells (g := g) hst n fuel t _ _ hp hx
  unfold ShapeV
  unfold Value.okWide at hv
  by_cases ha : isAgg P t = true
  · simp only [ha, if_true]
    have hv' : ∃ cs, v = .agg cs := by
      unfold isAgg at ha
      split at hv
      · obtain ⟨cs, rfl, _⟩ := hv; exact ⟨cs, rfl⟩
      · obtain ⟨cs, rfl, _⟩ := hv; exact ⟨cs, rfl⟩
      · rename_i h3 h4
        split at ha
        · rename_i h; exact absurd h (h3 _)
        · rename_i h; exact absurd h (h4 _ _)
        · cases ha
    obtain ⟨cs, rfl⟩ := hv'
    refine ⟨.agg avs, ⟨avs, rfl, h1⟩, .agg (by simpa [Value.cells] using h2.1.symm) fun j c u hc hu => ?_⟩
    have : (fun _ _ => wh0 0 j : Wh) = wh0 := rfl
    rw [this]
    exact (h2.2 j c u hc (by simpa [Value.cells] using hu)).2
  · simp only [ha]
    have hone : ∃ a, avs = [a] := by
      cases n with
      | zero => exact h1.elim
      | succ n =>
        unfold Shape at h1
        unfold isAgg at ha
        split at h1
        · obtain ⟨b, rfl⟩ := h1; exact ⟨_, rfl⟩
        · obtain ⟨b, rfl, _⟩ := h1; exact ⟨_, rfl⟩
        · obtain ⟨b, rfl, _⟩ := h1; exact ⟨_, rfl⟩
        · obtain ⟨b, rfl, _⟩ := h1; exact ⟨_, rfl⟩
        · rename_i h; rw [h] at ha; simp at ha
        · rename_i h; rw [h] at ha; simp at ha
        · exact h1.elim
    obtain ⟨a, rfl⟩ := hone
    refine ⟨a, h1, ?_⟩
    have hv' : ∃ c, v.cells.toList = [c] := by
      have := h2.1
      cases hcs : v.cells.toList with
      | nil => rw [hcs] at this; simp at this
      | cons c l => cases l with
        | nil => exact ⟨c, rfl⟩
        | cons c' l => rw [hcs] at this; simp at this
    obtain ⟨c, hc⟩ := hv'
    have hcv : v = c := by
      cases v with
      | agg cs =>
        exfalso
        unfold isAgg at ha
        split at hv
        · rename_i h; rw [h] at ha; simp at ha
        · rename_i h; rw [h] at ha; simp at ha
        · unfold Cell.okWide at hv
          split at hv <;> first | (rename_i h; cases h; done) | skip
          unfold Cell.ok at hv
          split at hv <;> first | exact hv | (rename_i h; cases h; done) | skip
          all_goals (rename_i h _; cases h)
      | _ => simp [Value.cells] at hc; exact hc
    subst hcv
    rw [hc] at h2
    exact (h2.2 0 a v rfl rfl).2
end
end Go.Ve

namespace Go.Ve
open Go
section
variable {P : Program} {w : World} {g : Gh}
def ArgsL (w : World) (g : Gh) : List AV → List Value → Prop
  | [], [] => True
  | a :: as₁, v :: vs => Rep w g wh0 a v ∧ ArgsL w g as₁ vs
  | _, _ => False
theorem ArgsL.get : ∀ {as₁ : List AV} {vs : List Value}, ArgsL w g as₁ vs → vs.length = as₁.length ∧ ∀ (j : Nat) x v, as₁[j]? = some x → vs[j]? = some v → Rep w g wh0 x v
  | [], [], _ => ⟨rfl, by simp⟩
  | a :: as₁, v :: vs, h => by
    obtain ⟨h1, h2⟩ := h
    obtain ⟨h3, h4⟩ := h2.get
    refine ⟨by simp [h3], fun j x u hx hu => ?_⟩
    cases j with
    | zero => simp at hx hu; subst hx; subst hu; exact h1
    | succ j => exact h4 j x u (by simpa using hx) (by simpa using hu)
  | [], _ :: _, h => h.elim
  | _ :: _, [], h => h.elim
theorem ArgsL.rep {as₁ : List AV} {vals : Array Value} (h : ArgsL w g as₁ vals.toList) : ArgsRep w g as₁ vals := by
  obtain ⟨h1, h2⟩ := h.get
  refine ⟨by simpa using h1, fun j x v hx hv => h2 j x v hx (by rw [Array.getElem?_toList]; exact hv)⟩
theorem below_of_ev {w' : World} {g' : Gh} (ev : Ev w (gOld w) w' g') : RowKit.Below w.heap.size w w' where
  os := congrArg Prod.fst ev.os
  tape := congrArg Prod.snd ev.os
  output := ev.out
  size := ev.size
  block k hk := (ev.old k hk rfl).2.1
theorem law_calls {pol : Pol} (hpol : PolOk P pol) {f : FuncId} {fn : Func} {c : Code} (hf : P.funcs[f]? = some fn) (hb : fn.body = some c) (hok : resOk fn = true) {args : List AV} {vals : Array Value} (ha : ArgsL w (gOld w) args vals.toList)
    (h : ∃ h', den P pol f args [] = some (.ret (.bool true), h')) : Calls P f vals w fun e w' => e = .returned (.bool true) ∧ RowKit.Below w.heap.size w w' := by
  obtain ⟨h', h⟩ := h
  rcases den_sound hpol f args [] _ h vals w (gOld w) (gOld_hr w) ha.rep with ⟨_, h2⟩ | ⟨u, w', h1, _⟩
  · refine h2.mono fun e w' hp => ?_
    cases e with
    | returned u =>
      obtain ⟨v, g', e1, ev, _, _, hr⟩ := hp
      cases e1
      cases hr
      exact ⟨rfl, below_of_ev ev⟩
    | panicked ch => obtain ⟨v, u, g', e1, _⟩ := hp; cases e1
    | outgrown => exact hp.elim
  · rw [callFunc_enter hf hb hok] at h1
    cases h1
end
end Go.Ve

namespace Go.Ve
open Go
def look {α : Type} (f : Nat) : List (Nat × α) → Option α
  | [] => none
  | p :: l => bif Nat.beq p.1 f then some p.2 else look f l
def tabPol (t : List (Nat × FAnn × Ann)) (here : List Nat) (ext : List (Nat × (List AV → H → Option (AEnd × H)))) : Pol :=
  { ann := fun f => (look f t).getD ({}, .nil), mode := fun f => bif here.contains f then 1 else 0, ext := fun f => look f ext }
section
variable {P : Program} {pol : Pol} {f : FuncId} {fn : Func} {c : Code} {args : List AV} {h h' : H} {v w : AV}
theorem mapM_pure (hp : pureL args = true) (h : H) : args.mapM (AV.freeze h) = some args := mapM_id' fun _ hx => freeze_pure (pureL_mem hp _ hx)
theorem ne0 {m : Nat} (h : m = 1) : m ≠ 0 := by omega
theorem den_val (hx : pol.ext f = none) (hf : P.funcs[f]? = some fn) (hb : fn.body = some c) (hm : pol.mode f = 0) (hok : (resOk fn && Nat.ble args.length fn.ntmps && (pol.ann f).1.q.all pol.still) = true) (n : Nat) (hp : pureL args = true)
    (he : body P (pol.ann f).1 (den P pol) fn (pol.ann f).2 n c args [] = some (.ret v, h')) (hv : v.freeze h' = some w) (hw : w.pure = true) (hro : retOk fn (.ret w) = true) : den P pol f args h = some (.ret w, h) := by
  refine den_pure hx hf hb hm hok n ?_
  unfold retChk pureCall
  rw [mapM_pure hp]
  simp only [hp, if_true, he]
  rw [hv]
  simp only [Option.bind_some, hw, Bool.true_and, Bool.true_or, if_true, hro]
theorem den_val0 (hx : pol.ext f = none) (hf : P.funcs[f]? = some fn) (hb : fn.body = some c) (hm : pol.mode f = 0) (hok : (resOk fn && Nat.ble args.length fn.ntmps && (pol.ann f).1.q.all pol.still) = true) (n : Nat) (hp : pureL args = true)
    (he : body P (pol.ann f).1 (den P pol) fn (pol.ann f).2 n c args [] = some (.ret v, h')) (hw : v.pure = true) (hro : retOk fn (.ret v) = true) : den P pol f args h = some (.ret v, h) :=
  den_val hx hf hb hm hok n hp he (freeze_pure hw) hw hro
theorem den_at {r : AEnd} (hx : pol.ext f = none) (hf : P.funcs[f]? = some fn) (hb : fn.body = some c) (hm : pol.mode f ≠ 0) (hok : (resOk fn && Nat.ble args.length fn.ntmps && (pol.ann f).1.q.all pol.still) = true) (n : Nat)
    (he : body P (pol.ann f).1 (den P pol) fn (pol.ann f).2 n c args h = some (r, h')) (hro : retOk fn r = true) : den P pol f args h = some (r, h') := by
  refine den_here hx hf hb hm hok n ?_
  unfold retChk
  rw [he]
  simp only [hro, if_true]
end
end Go.Ve

namespace Go.Ve
open Go
section
variable {P : Program}
def ExtOk (P : Program) (f : FuncId) (e : List AV → H → Option (AEnd × H)) : Prop :=
  ∀ (args : List AV) (h : H) (r : AEnd × H), e args h = some r → ∀ (vals : Array Value) (w : World) (g : Gh), HR w g h → ArgsRep w g args vals → Callee P f vals w (CPost w g r)
theorem polOk_tab {t : List (Nat × FAnn × Ann)} {here : List Nat} {ext : List (Nat × (List AV → H → Option (AEnd × H)))} (hm : P.follows .mixedOrders = true) (he : ∀ p ∈ ext, ExtOk P p.1 p.2) : PolOk P (tabPol t here ext) where
  mixed := hm
  ext f e hf := by
    have key : ∀ l : List (Nat × (List AV → H → Option (AEnd × H))), look f l = some e → (f, e) ∈ l := by
      intro l
      induction l with
      | nil => intro h; cases h
      | cons p l ih =>
        intro h
        simp only [look] at h
        cases hb : Nat.beq p.1 f with
        | true =>
          rw [hb] at h
          simp only [cond_true, Option.some.injEq] at h
          have := Nat.eq_of_beq_eq_true hb
          subst this; subst h
          simp
        | false => rw [hb] at h; exact List.mem_cons_of_mem _ (ih h)
    exact he _ (key _ hf)
end
end Go.Ve

namespace Go.Ve
open Go
section
variable {R : Type} {P : Program} {A : FAnn} {call : Cl} {n : Nat}
theorem sub_append : ∀ (p q : List Nat) (c : Code), isAt p c = true → sub (p ++ q) c = sub q (sub p c)
  | [], _, _, _ => rfl
  | x :: p, q, c, h => by
    cases c <;> rcases x with _ | _ | x <;> first | exact sub_append p q _ h | (simp [isAt] at h; done)
theorem ansub_append : ∀ (p q : List Nat) (an : Ann), an.sub (p ++ q) = (an.sub p).sub q
  | [], _, _ => rfl
  | x :: p, q, an => by
    rcases x with _ | x
    · exact ansub_append p q an.a
    · exact ansub_append p q an.b
theorem isAt_append : ∀ (p q : List Nat) (c : Code), isAt p c = true → isAt (p ++ q) c = isAt q (sub p c)
  | [], _, _, _ => rfl
  | x :: p, q, c, h => by
    cases c <;> rcases x with _ | _ | x <;> first | exact isAt_append p q _ h | (simp [isAt] at h; done)
theorem loops_append : ∀ (p q : List Nat) (c : Code), isAt p c = true → loops (p ++ q) c = loops p c + loops q (sub p c)
  | [], _, _, _ => by simp [loops, sub]
  | x :: p, q, c, h => by
    cases c <;> rcases x with _ | _ | x <;> first | exact loops_append p q _ h | (have := loops_append p q _ h; simp only [List.cons_append, loops, sub] at this ⊢; omega) | (simp [isAt] at h; done)
theorem kAt_append : ∀ (p q ms ms' : List Nat) (c : Code) (an : Ann) (k : K R), isAt p c = true → ms.length = loops p c → kAt P A call n (p ++ q) (ms ++ ms') c an k = kAt P A call n q ms' (sub p c) (an.sub p) (kAt P A call n p ms c an k)
  | [], q, ms, ms', c, an, k, _, hl => by
    have : ms = [] := List.eq_nil_of_length_eq_zero (by simpa [loops] using hl)
    subst this
    simp [kAt, sub, Ann.sub]
  | x :: p, q, ms, ms', c, an, k, h, hl => by
    cases c <;> first | (simp [isAt] at h; done) | skip
    case loop c =>
      rcases x with _ | x
      · cases ms with
        | nil => simp [loops] at hl
        | cons m ms =>
          simp only [isAt] at h
          simp only [loops, List.length_cons, Nat.add_right_cancel_iff] at hl
          exact kAt_append p q ms ms' c an.a _ h hl
      · simp [isAt] at h
    all_goals (rcases x with _ | _ | x <;> first | exact kAt_append p q ms ms' _ _ _ h hl | (simp [isAt] at h; done))
structure At (P : Program) (A : FAnn) (call : Cl) (fn : Func) (an0 : Ann) (c0 : Code) (n : Nat) (p ms : List Nat) (c : Code) (an : Ann) (k : K (AEnd × H)) : Prop where
  is : isAt p c0 = true
  sub : sub p c0 = c
  an : an0.sub p = an
  len : ms.length = loops p c0
  k : kAt P (A.fit fn) call n p ms c0 an0 (kTop P A call n fn) = k
section
variable {fn : Func} {an0 : Ann} {c0 : Code} {p ms : List Nat} {c : Code} {an : Ann} {k : K (AEnd × H)}
theorem At.step (h : At P A call fn an0 c0 n p ms c an k) (x : Nat) (ms' : List Nat) (hi : isAt [x] c = true) (hl : ms'.length = loops [x] c) : At P A call fn an0 c0 n (p ++ [x]) (ms ++ ms') (Go.Ve.sub [x] c) (an.sub [x]) (kAt P (A.fit fn) call n [x] ms' c an k) := by
  refine ⟨?_, ?_, ?_, ?_, ?_⟩
  · rw [isAt_append p _ _ h.is, h.sub]; exact hi
  · rw [sub_append p _ _ h.is, h.sub]
  · rw [ansub_append, h.an]
  · rw [loops_append p _ _ h.is, h.sub, List.length_append, h.len, hl]
  · rw [kAt_append p _ ms ms' _ _ _ h.is h.len, h.sub, h.an, h.k]
theorem At.step0 (h : At P A call fn an0 c0 n p ms c an k) (x : Nat) (hi : isAt [x] c = true) (hl : 0 = loops [x] c) : At P A call fn an0 c0 n (p ++ [x]) ms (Go.Ve.sub [x] c) (an.sub [x]) (kAt P (A.fit fn) call n [x] [] c an k) := by
  have := h.step x [] hi hl
  rwa [List.append_nil] at this
theorem realJ_at (h : At P A call fn an0 c0 n p ms c an k) (hc : isLoop c = false) (s : St) : realJ P A call fn an0 c0 n p ms s = exec P (A.fit fn) call n c an k s := by
  unfold realJ
  rw [h.sub]
  cases c <;> first | (simp [isLoop] at hc; done) | (simp only [h.k, h.an])
theorem realJ_loop {c' : Code} (h : At P A call fn an0 c0 n p ms (.loop c') an k) (m : Nat) (s : St) : realJ P A call fn an0 c0 n p (ms ++ [m]) s = loopN (fun again s' => exec P (A.fit fn) call n c' an.a { k with normal := fun s'' => again (an.a.enter s'') } s') m s := by
  have h1 := sub_append p [0] c0 h.is
  have h2 := ansub_append p [0] an0
  rw [h.sub] at h1
  rw [h.an] at h2
  unfold realJ
  rw [h.sub]
  simp only [List.reverse_append, List.reverse_cons, List.reverse_nil, List.nil_append, List.singleton_append, List.reverse_reverse, h.k, h1, h2]
  rfl
theorem exec_told : ∀ (c : Code) (p ms : List Nat) (an : Ann) (k : K (AEnd × H)) (s : St), At P A call fn an0 c0 n p ms c an k →
    exec P (A.fit fn) call n c an k s = execJ (rgOf P (A.fit fn) call) (rqOf P (A.fit fn) call) n (realJ P A call fn an0 c0 n) c p ms an k s := by
  intro c
  induction c with
  | skip => intros; rfl
  | label l => intros; rfl
  | exit id => intros; rfl
  | ret => intros; rfl
  | goto l => intros; rfl
  | refuse l => intros; rfl
  | rangeFunc f ps x y => intros; rfl
  | region r ops draw => intros; cases draw <;> rfl
  | seq a b iha ihb =>
    intro p ms an k s h
    have ha := h.step0 0 rfl rfl
    have hb := h.step0 1 rfl rfl
    have e : (fun s' => exec P (A.fit fn) call n b an.b k (an.b.enter s')) = fun s' => pickJ (an.b.kept && !isLoop b) (realJ P A call fn an0 c0 n (p ++ [1]) ms (an.b.enter s')) (execJ (rgOf P (A.fit fn) call) (rqOf P (A.fit fn) call) n (realJ P A call fn an0 c0 n) b (p ++ [1]) ms an.b k (an.b.enter s')) := by
      funext s'
      cases hk : an.b.kept && !isLoop b with
      | true =>
        simp only [Bool.and_eq_true, Bool.not_eq_true'] at hk
        exact (realJ_at hb hk.2 _).symm
      | false => exact ihb (p ++ [1]) ms an.b k _ hb
    show exec P (A.fit fn) call n a an.a { k with normal := fun s' => exec P (A.fit fn) call n b an.b k (an.b.enter s') } (an.a.enter s) = _
    rw [iha (p ++ [0]) ms an.a { k with normal := fun s' => exec P (A.fit fn) call n b an.b k (an.b.enter s') } _ ha]
    simp only [execJ]
    rw [← e]
  | cond x a b iha ihb =>
    intro p ms an k s h
    have ha := h.step0 0 rfl rfl
    have hb := h.step0 1 rfl rfl
    show condA (vOf s.fr x) (exec P (A.fit fn) call n a an.a k (an.a.enter s)) (exec P (A.fit fn) call n b an.b k (an.b.enter s)) = _
    rw [iha (p ++ [0]) ms an.a k _ ha, ihb (p ++ [1]) ms an.b k _ hb]
    rfl
  | block id c ih =>
    intro p ms an k s h
    have ha := h.step0 0 rfl rfl
    exact ih (p ++ [0]) ms an.a _ _ ha
  | loop c ih =>
    intro p ms an k s h
    show loopN _ n (an.a.enter s) = realJ P A call fn an0 c0 n p (ms ++ [n]) (an.a.enter s)
    rw [realJ_loop h]
  | scope c ih =>
    intro p ms an k s h
    have ha := h.step0 0 rfl rfl
    exact ih (p ++ [0]) ms an.a _ _ ha
theorem kAt_told : ∀ (p ms q mq : List Nat) (c : Code) (an : Ann) (k : K (AEnd × H)), At P A call fn an0 c0 n q mq c an k → isAt p c = true → ms.length = loops p c →
    kAtJ (rgOf P (A.fit fn) call) (rqOf P (A.fit fn) call) n (realJ P A call fn an0 c0 n) p ms q mq c an k = kAt P (A.fit fn) call n p ms c an k
  | [], ms, q, mq, c, an, k, _, _, _ => by
    cases c <;> rfl
  | x :: p, ms, q, mq, c, an, k, h, hi, hl => by
    cases c <;> first | (simp [isAt] at hi; done) | skip
    case loop c =>
      rcases x with _ | x
      · cases ms with
        | nil => simp [loops] at hl
        | cons m ms =>
          simp only [isAt] at hi
          simp only [loops, List.length_cons, Nat.add_right_cancel_iff] at hl
          have hs := h.step 0 [m] rfl rfl
          have e : (fun s'' => realJ P A call fn an0 c0 n q (mq ++ [m]) (an.a.enter s'')) = fun s'' => loopN (fun again s' => exec P (A.fit fn) call n c an.a { k with normal := fun s'' => again (an.a.enter s'') } s') m (an.a.enter s'') := by
            funext s''
            exact realJ_loop h m _
          simp only [kAtJ, kAt]
          rw [e]
          exact kAt_told p ms (q ++ [0]) (mq ++ [m]) c an.a _ hs hi hl
      · simp [isAt] at hi
    case seq a b =>
      rcases x with _ | _ | x
      · have ha := h.step0 0 rfl rfl
        have hb := h.step0 1 rfl rfl
        have e : (fun s' => pickJ (an.b.kept && !isLoop b) (realJ P A call fn an0 c0 n (q ++ [1]) mq (an.b.enter s')) (execJ (rgOf P (A.fit fn) call) (rqOf P (A.fit fn) call) n (realJ P A call fn an0 c0 n) b (q ++ [1]) mq an.b k (an.b.enter s'))) = fun s' => exec P (A.fit fn) call n b an.b k (an.b.enter s') := by
          funext s'
          cases hk : an.b.kept && !isLoop b with
          | true =>
            simp only [Bool.and_eq_true, Bool.not_eq_true'] at hk
            exact realJ_at hb hk.2 _
          | false => exact (exec_told b (q ++ [1]) mq an.b k _ hb).symm
        simp only [kAtJ, kAt]
        rw [e]
        exact kAt_told p ms (q ++ [0]) mq a an.a _ ha hi hl
      · exact kAt_told p ms (q ++ [1]) mq b an.b k (h.step0 1 rfl rfl) hi hl
      · simp [isAt] at hi
    case cond y a b =>
      rcases x with _ | _ | x
      · exact kAt_told p ms (q ++ [0]) mq a an.a k (h.step0 0 rfl rfl) hi hl
      · exact kAt_told p ms (q ++ [1]) mq b an.b k (h.step0 1 rfl rfl) hi hl
      · simp [isAt] at hi
    case block id c =>
      rcases x with _ | x
      · exact kAt_told p ms (q ++ [0]) mq c an.a _ (h.step0 0 rfl rfl) hi hl
      · simp [isAt] at hi
    case scope c =>
      rcases x with _ | x
      · exact kAt_told p ms (q ++ [0]) mq c an.a _ (h.step0 0 rfl rfl) hi hl
      · simp [isAt] at hi
theorem at_of {p ms : List Nat} (h1 : isAt p c0 = true) (h2 : ms.length = loops p c0) : At P A call fn an0 c0 n p ms (sub p c0) (an0.sub p) (kAt P (A.fit fn) call n p ms c0 an0 (kTop P A call n fn)) := ⟨h1, rfl, rfl, h2, rfl⟩
theorem at_top : At P A call fn an0 c0 n [] [] c0 an0 (kTop P A call n fn) := ⟨rfl, rfl, rfl, rfl, by cases c0 <;> rfl⟩
theorem realJ_fix : JFix P A call fn an0 c0 n (realJ P A call fn an0 c0 n) := by
  intro p ms s hok
  simp only [okJ, Bool.and_eq_true] at hok
  obtain ⟨hi, hl⟩ := hok
  have hl := Nat.eq_of_beq_eq_true hl
  cases hc : isLoop (sub p c0) with
  | true =>
    rw [hc] at hl
    simp only [cond_true] at hl
    obtain ⟨c', hc'⟩ : ∃ c', sub p c0 = .loop c' := by
      cases h : sub p c0 <;> rw [h] at hc <;> first | (simp [isLoop] at hc; done) | exact ⟨_, rfl⟩
    obtain ⟨ms', m, rfl⟩ : ∃ ms' m, ms = ms' ++ [m] := ⟨ms.dropLast, ms.getLast (by rintro rfl; simp at hl), (List.dropLast_concat_getLast _).symm⟩
    simp only [List.length_append, List.length_cons, List.length_nil, Nat.zero_add, Nat.add_right_cancel_iff] at hl
    have h := at_of (P := P) (A := A) (call := call) (fn := fn) (an0 := an0) (n := n) hi hl
    rw [hc'] at h
    rw [realJ_loop h]
    unfold atJ
    rw [hc']
    simp only [List.reverse_append, List.reverse_cons, List.reverse_nil, List.nil_append, List.singleton_append]
    cases m with
    | zero => rfl
    | succ m =>
      simp only [loopN]
      have hs := h.step 0 [m] rfl rfl
      have h1 := hs.sub
      have h2 := hs.an
      simp only [List.reverse_reverse]
      have hk : kAtJ (rgOf P (A.fit fn) call) (rqOf P (A.fit fn) call) n (realJ P A call fn an0 c0 n) (p ++ [0]) (ms' ++ [m]) [] [] c0 an0 (kTop P A call n fn) = kAt P (A.fit fn) call n (p ++ [0]) (ms' ++ [m]) c0 an0 (kTop P A call n fn) := kAt_told _ _ _ _ _ _ _ at_top hs.is hs.len
      rw [hk, hs.k, h2]
      exact exec_told c' (p ++ [0]) (ms' ++ [m]) _ _ _ hs
  | false =>
    rw [hc] at hl
    simp only [cond_false] at hl
    have h := at_of (P := P) (A := A) (call := call) (fn := fn) (an0 := an0) (n := n) hi hl
    rw [realJ_at h hc]
    rw [exec_told _ p ms _ _ _ h]
    have hk : kAtJ (rgOf P (A.fit fn) call) (rqOf P (A.fit fn) call) n (realJ P A call fn an0 c0 n) p ms [] [] c0 an0 (kTop P A call n fn) = kAt P (A.fit fn) call n p ms c0 an0 (kTop P A call n fn) := kAt_told _ _ _ _ _ _ _ at_top hi hl
    unfold atJ
    rw [hk]
    cases hs : sub p c0 <;> rw [hs] at hc <;> first | (simp [isLoop] at hc; done) | rfl
theorem body_real (args : List AV) (h : H) (hc : isLoop c0 = false) : body P A call fn an0 n c0 args h = realJ P A call fn an0 c0 n [] [] (an0.enter ⟨argFr 0 args, [], [], h⟩) := (realJ_at at_top hc _).symm
end
end
end Go.Ve

namespace Go.Ve
open Go
section
variable {k k' : IntKind} {a b : Int} {h : H} {R : Type}
@[congr] theorem bind_first {α β : Type} {x x' : Option α} {f : α → Option β} (h : x = x') : x.bind f = x'.bind f := by rw [h]
@[congr] theorem condV_first {c c' : AV} {x y : Option R} (h : c = c') : condV c x y = condV c' x y := by rw [h]
@[congr] theorem retOr_first {e e' : AEnd} {kp kv : AV → R} (h : e = e') : retOr e kp kv = retOr e' kp kv := by rw [h]
@[simp high] theorem bind_some' {α β : Type} {a : α} {f : α → Option β} : (some a).bind f = f a := (Eq.refl _).trans rfl
@[simp] theorem bin_add : bin .add (.int k a) (.int k b) = some (.int k (k.wrap (a + b))) := by simp [bin, intBin]
@[simp] theorem bin_sub : bin .sub (.int k a) (.int k b) = some (.int k (k.wrap (a - b))) := by simp [bin, intBin]
@[simp] theorem bin_mul : bin .mul (.int k a) (.int k b) = some (.int k (k.wrap (a * b))) := by simp [bin, intBin]
@[simp] theorem bin_quo : bin .quo (.int k a) (.int k b) = if b = 0 then none else some (.int k (k.wrap (a.tdiv b))) := by simp [bin, intBin]
@[simp] theorem bin_rem : bin .rem (.int k a) (.int k b) = if b = 0 then none else some (.int k (a.tmod b)) := by simp [bin, intBin]
@[simp] theorem bin_eql : bin .eql (.int k a) (.int k b) = some (.bool (decide (a = b))) := by simp [bin, intBin]; rfl
@[simp] theorem bin_neq : bin .neq (.int k a) (.int k b) = some (.bool (decide (a ≠ b))) := by simp [bin, intBin, bne]; by_cases h : a = b <;> simp [h]
@[simp] theorem bin_lss : bin .lss (.int k a) (.int k b) = some (.bool (decide (a < b))) := by simp [bin, intBin]
@[simp] theorem bin_leq : bin .leq (.int k a) (.int k b) = some (.bool (decide (a ≤ b))) := by simp [bin, intBin]
@[simp] theorem bin_gtr : bin .gtr (.int k a) (.int k b) = some (.bool (decide (a > b))) := by simp [bin, intBin]
@[simp] theorem bin_geq : bin .geq (.int k a) (.int k b) = some (.bool (decide (a ≥ b))) := by simp [bin, intBin]
@[simp] theorem bin_shl : bin .shl (.int k a) (.int k' b) = shiftBin .shl k a b := (Eq.refl _).trans rfl
@[simp] theorem bin_shr : bin .shr (.int k a) (.int k' b) = shiftBin .shr k a b := (Eq.refl _).trans rfl
@[simp] theorem bin_and : bin .and (.int k a) (.int k b) = intBits .and k a b := by simp [bin, intBin]
@[simp] theorem bin_or : bin .or (.int k a) (.int k b) = intBits .or k a b := by simp [bin, intBin]
@[simp] theorem bin_xor : bin .xor (.int k a) (.int k b) = intBits .xor k a b := by simp [bin, intBin]
@[simp] theorem bin_andNot : bin .andNot (.int k a) (.int k b) = intBits .andNot k a b := by simp [bin, intBin]
@[simp] theorem bin_str {op : BinOp} {s t : List UInt8} : bin op (.str s) (.str t) = strBin op s t := by cases op <;> rfl
@[simp] theorem strBin_eql {s t : List UInt8} : strBin .eql s t = some (.bool (decide (s = t))) := by simp [strBin]; by_cases h : s = t <;> simp [h]
@[simp] theorem strBin_neq {s t : List UInt8} : strBin .neq s t = some (.bool (decide (s ≠ t))) := by simp [strBin]; by_cases h : s = t <;> simp [h]
@[simp] theorem binBool_eql {x y : Bool} : binBool .eql (.bool x) (.bool y) = some (.bool (x == y)) := (Eq.refl _).trans rfl
@[simp] theorem binBool_neq {x y : Bool} : binBool .neq (.bool x) (.bool y) = some (.bool (!(x == y))) := (Eq.refl _).trans rfl
@[simp] theorem unOp_not {x : Bool} : unOp .not (.bool x) = some (.bool (!x)) := (Eq.refl _).trans rfl
@[simp] theorem unOp_neg : unOp .neg (.int k a) = some (.int k (k.wrap (0 - a))) := (Eq.refl _).trans rfl
@[simp] theorem cvInt_int : cvInt k (.int k' a) = some (.int k (k.wrap a)) := (Eq.refl _).trans rfl
@[simp] theorem cvStr_str {s : List UInt8} : cvStr (.str s) = some (.str s) := (Eq.refl _).trans rfl
@[simp] theorem condV_true {x y : Option R} : condV (.bool true) x y = x := (Eq.refl _).trans rfl
@[simp] theorem condV_false {x y : Option R} : condV (.bool false) x y = y := (Eq.refl _).trans rfl
@[simp low] theorem condV_bool {c : Bool} {x y : Option R} : condV (.bool c) x y = if c = true then x else y := by cases c <;> rfl
@[simp] theorem pickV_bool {c : Bool} {x y : AV} : pickV (.bool c) x y = some (if c = true then x else y) := by cases c <;> rfl
@[simp] theorem retOr_ret {v : AV} {kp kv : AV → R} : retOr (.ret v) kp kv = kv v := (Eq.refl _).trans rfl
@[simp] theorem exTuple_eq {vs : List AV} {j : Nat} : exTuple j (.tuple vs) = vs[j]? := (Eq.refl _).trans rfl
@[simp] theorem nilOk_ptr {i o : Nat} : nilOk (.ptr i o) = some (.ptr i o) := (Eq.refl _).trans rfl
@[simp] theorem nilOk_rptr {cs : List AV} {o : Nat} : nilOk (.rptr cs o) = some (.rptr cs o) := (Eq.refl _).trans rfl
@[simp] theorem fAddr_ptr {off i o : Nat} : fAddr off (.ptr i o) = some (.ptr i (o + off)) := (Eq.refl _).trans rfl
@[simp] theorem fAddr_rptr {off o : Nat} {cs : List AV} : fAddr off (.rptr cs o) = some (.rptr cs (o + off)) := (Eq.refl _).trans rfl
@[simp] theorem fCell_agg {off : Nat} {cs : List AV} : fCell off (.agg cs) = cs[off]? := (Eq.refl _).trans rfl
@[simp] theorem fAgg_agg {off n : Nat} {cs : List AV} : fAgg off n (.agg cs) = aggAt n cs off := (Eq.refl _).trans rfl
@[simp] theorem ldCell_rptr {cs : List AV} {o : Nat} : ldCell h (.rptr cs o) = cs[o]? := (Eq.refl _).trans rfl
@[simp] theorem ldAgg_rptr {cs : List AV} {o n : Nat} : ldAgg n h (.rptr cs o) = aggAt n cs o := (Eq.refl _).trans rfl
theorem aggAt_all {n : Nat} {cs : List AV} (hn : cs.length = n) : aggAt n cs 0 = some (.agg cs) := by simp [aggAt, ← hn]
@[simp] theorem lnSl_list {rows : List (List AV)} {o : Own} : lnSl (.list rows o) = some (.int .i64 rows.length) := (Eq.refl _).trans rfl
@[simp] theorem lnStr_str {s : List UInt8} : lnStr (.str s) = some (.int .i64 s.length) := (Eq.refl _).trans rfl
@[simp] theorem canon_bool {x : Bool} : AV.canon (.bool x) = .bool x := (Eq.refl _).trans rfl
@[simp] theorem canon_int : AV.canon (.int k a) = .int k a := (Eq.refl _).trans rfl
@[simp] theorem canon_str {s : List UInt8} : AV.canon (.str s) = .str s := (Eq.refl _).trans rfl
@[simp] theorem canon_list {rows : List (List AV)} {o : Own} : AV.canon (.list rows o) = .list rows .no := (Eq.refl _).trans rfl
@[simp] theorem canon_ptr {i o : Nat} : AV.canon (.ptr i o) = .ptr i o := (Eq.refl _).trans rfl
@[simp] theorem canon_agg {cs : List AV} : AV.canon (.agg cs) = .agg (cs.map AV.canonCell) := (Eq.refl _).trans rfl
@[simp] theorem canonCell_bool {x : Bool} : AV.canonCell (.bool x) = .bool x := (Eq.refl _).trans rfl
@[simp] theorem canonCell_int : AV.canonCell (.int k a) = .int k a := (Eq.refl _).trans rfl
@[simp] theorem canonCell_str {s : List UInt8} : AV.canonCell (.str s) = .str s := (Eq.refl _).trans rfl
@[simp] theorem canonCell_list {rows : List (List AV)} {o : Own} : AV.canonCell (.list rows o) = .list rows .no := (Eq.refl _).trans rfl
@[simp] theorem copy_bool {x : Bool} : AV.copy (.bool x) = .bool x := (Eq.refl _).trans rfl
@[simp] theorem copy_int : AV.copy (.int k a) = .int k a := (Eq.refl _).trans rfl
@[simp] theorem copy_str {s : List UInt8} : AV.copy (.str s) = .str s := (Eq.refl _).trans rfl
@[simp] theorem copy_ptr {i o : Nat} : AV.copy (.ptr i o) = .ptr i o := (Eq.refl _).trans rfl
@[simp] theorem copy_agg {cs : List AV} : AV.copy (.agg cs) = .agg (cs.map AV.copyCell) := (Eq.refl _).trans rfl
@[simp] theorem copy_no {rows : List (List AV)} : AV.copy (.list rows .no) = .list rows .no := (Eq.refl _).trans rfl
@[simp] theorem copy_cap {rows : List (List AV)} : AV.copy (.list rows .cap) = .list rows .cap := (Eq.refl _).trans rfl
@[simp] theorem copy_own {rows : List (List AV)} {s : Nat} : AV.copy (.list rows (.own s)) = .list rows .no := (Eq.refl _).trans rfl
@[simp] theorem copyCell_bool {x : Bool} : AV.copyCell (.bool x) = .bool x := (Eq.refl _).trans rfl
@[simp] theorem copyCell_int : AV.copyCell (.int k a) = .int k a := (Eq.refl _).trans rfl
@[simp] theorem copyCell_str {s : List UInt8} : AV.copyCell (.str s) = .str s := (Eq.refl _).trans rfl
@[simp] theorem copyCell_no {rows : List (List AV)} : AV.copyCell (.list rows .no) = .list rows .no := (Eq.refl _).trans rfl
@[simp] theorem copyCell_cap {rows : List (List AV)} : AV.copyCell (.list rows .cap) = .list rows .cap := (Eq.refl _).trans rfl
@[simp] theorem copyCell_own {rows : List (List AV)} {s : Nat} : AV.copyCell (.list rows (.own s)) = .list rows .no := (Eq.refl _).trans rfl
@[simp] theorem copyCell_func {f : Fn} : AV.copyCell (.func f [] []) = .func f [] [] := (Eq.refl _).trans rfl
@[simp] theorem copy_func {f : Fn} : AV.copy (.func f [] []) = .func f [] [] := (Eq.refl _).trans rfl
@[simp] theorem canon_func {f : Fn} : AV.canon (.func f [] []) = .func f [] [] := (Eq.refl _).trans rfl
attribute [simp] AV.pure pureL pureR
@[simp] theorem pureR_append : ∀ (x y : List (List AV)), pureR (x ++ y) = (pureR x && pureR y)
  | [], y => by simp
  | r :: x, y => by simp [pureR, pureR_append x y, Bool.and_assoc]
@[simp] theorem pureR_map {α : Type} {f : α → List AV} {l : List α} (hf : ∀ x, pureL (f x) = true) : pureR (l.map f) = true := by
  induction l with
  | nil => rfl
  | cons x l ih => simp [pureR, hf, ih]
@[simp] theorem bx_one {v : AV} (hv : v.cells.all AV.one = true) : bx h v = some (.ptr h.length 0, h ++ [.arr v.cells false]) := by simp only [bx, hv, if_true]
def objCell (o : Nat) : Option AObj → Option AV
  | some (.arr cs _) => cs[o]?
  | _ => none
def objAgg (n o : Nat) : Option AObj → Option AV
  | some (.arr cs _) => aggAt n cs o
  | _ => none
def objSet (n o : Nat) (h : H) (i : Nat) (v : AV) : Option AObj → Option (AV × H)
  | some (.arr cs false) => if v.cells.length = n ∧ v.cells.all AV.one then (splice cs o v).map fun cs => (.undef, h.set i (.arr cs false)) else none
  | _ => none
def objMap : Option AObj → Option (List (AV × AV))
  | some (.map es) => some es
  | _ => none
@[simp] theorem ldCell_ptr {i o : Nat} : ldCell h (.ptr i o) = objCell o h[i]? := by
  simp only [ldCell, cellsAt, cellAt]
  generalize h[i]? = x
  rcases x with _ | x
  · rfl
  · cases x <;> rfl
@[simp] theorem ldAgg_ptr {i o n : Nat} : ldAgg n h (.ptr i o) = objAgg n o h[i]? := by
  simp only [ldAgg, cellsAt]
  generalize h[i]? = x
  rcases x with _ | x
  · rfl
  · cases x <;> rfl
@[simp] theorem stN_ptr {i o n : Nat} {v : AV} : stN n h (.ptr i o) v = objSet n o h i v h[i]? := by
  simp only [stN]
  generalize h[i]? = x
  rcases x with _ | x
  · rfl
  · rcases x with ⟨cs, ro⟩ | _ | _
    · cases ro <;> rfl
    · rfl
    · rfl
@[simp] theorem mapEs_map {i : Nat} : mapEs h (.map i) = objMap h[i]? := by
  simp only [mapEs]
  generalize h[i]? = x
  rcases x with _ | x
  · rfl
  · cases x <;> rfl
@[simp] theorem objCell_arr {o : Nat} {cs : List AV} {ro : Bool} : objCell o (some (.arr cs ro)) = cs[o]? := (Eq.refl _).trans rfl
@[simp] theorem objAgg_arr {n o : Nat} {cs : List AV} {ro : Bool} : objAgg n o (some (.arr cs ro)) = aggAt n cs o := (Eq.refl _).trans rfl
@[simp] theorem objMap_map {es : List (AV × AV)} : objMap (some (.map es)) = some es := (Eq.refl _).trans rfl
@[simp] theorem objSet_arr {n o i : Nat} {v : AV} {cs : List AV} : objSet n o h i v (some (.arr cs false)) = if v.cells.length = n ∧ v.cells.all AV.one then (splice cs o v).map fun cs => (.undef, h.set i (.arr cs false)) else none := (Eq.refl _).trans rfl
@[simp] theorem one_bool {x : Bool} : AV.one (.bool x) = true := (Eq.refl _).trans rfl
@[simp] theorem cells_bool {x : Bool} : AV.cells (.bool x) = [.bool x] := (Eq.refl _).trans rfl
@[simp] theorem one_int  : AV.one (.int k a) = true := (Eq.refl _).trans rfl
@[simp] theorem cells_int  : AV.cells (.int k a) = [.int k a] := (Eq.refl _).trans rfl
@[simp] theorem one_str {s : List UInt8} : AV.one (.str s) = true := (Eq.refl _).trans rfl
@[simp] theorem cells_str {s : List UInt8} : AV.cells (.str s) = [.str s] := (Eq.refl _).trans rfl
@[simp] theorem one_list {rows : List (List AV)} {o : Own} : AV.one (.list rows o) = true := (Eq.refl _).trans rfl
@[simp] theorem cells_list {rows : List (List AV)} {o : Own} : AV.cells (.list rows o) = [.list rows o] := (Eq.refl _).trans rfl
@[simp] theorem one_ptr {i o : Nat} : AV.one (.ptr i o) = true := (Eq.refl _).trans rfl
@[simp] theorem cells_ptr {i o : Nat} : AV.cells (.ptr i o) = [.ptr i o] := (Eq.refl _).trans rfl
@[simp] theorem one_rptr {cs : List AV} {o : Nat} : AV.one (.rptr cs o) = true := (Eq.refl _).trans rfl
@[simp] theorem cells_rptr {cs : List AV} {o : Nat} : AV.cells (.rptr cs o) = [.rptr cs o] := (Eq.refl _).trans rfl
@[simp] theorem one_nilPtr  : AV.one AV.nilPtr = true := (Eq.refl _).trans rfl
@[simp] theorem cells_nilPtr  : AV.cells AV.nilPtr = [AV.nilPtr] := (Eq.refl _).trans rfl
@[simp] theorem one_func {f : Fn} {x y : List AV} : AV.one (.func f x y) = true := (Eq.refl _).trans rfl
@[simp] theorem cells_func {f : Fn} {x y : List AV} : AV.cells (.func f x y) = [.func f x y] := (Eq.refl _).trans rfl
@[simp] theorem one_nilFunc  : AV.one AV.nilFunc = true := (Eq.refl _).trans rfl
@[simp] theorem cells_nilFunc  : AV.cells AV.nilFunc = [AV.nilFunc] := (Eq.refl _).trans rfl
@[simp] theorem one_nilMap  : AV.one AV.nilMap = true := (Eq.refl _).trans rfl
@[simp] theorem cells_nilMap  : AV.cells AV.nilMap = [AV.nilMap] := (Eq.refl _).trans rfl
@[simp] theorem one_map {i : Nat} : AV.one (.map i) = true := (Eq.refl _).trans rfl
@[simp] theorem cells_map {i : Nat} : AV.cells (.map i) = [.map i] := (Eq.refl _).trans rfl
@[simp] theorem one_slc {i o n s : Nat} : AV.one (.slc i o n s) = true := (Eq.refl _).trans rfl
@[simp] theorem cells_slc {i o n s : Nat} : AV.cells (.slc i o n s) = [.slc i o n s] := (Eq.refl _).trans rfl
@[simp] theorem one_iface {t : TypeId} {v : AV} : AV.one (.iface t v) = true := (Eq.refl _).trans rfl
@[simp] theorem cells_iface {t : TypeId} {v : AV} : AV.cells (.iface t v) = [.iface t v] := (Eq.refl _).trans rfl
@[simp] theorem one_nilIface  : AV.one AV.nilIface = true := (Eq.refl _).trans rfl
@[simp] theorem cells_nilIface  : AV.cells AV.nilIface = [AV.nilIface] := (Eq.refl _).trans rfl
@[simp] theorem cells_agg {cs : List AV} : AV.cells (.agg cs) = cs := (Eq.refl _).trans rfl
@[simp] theorem bx_agg {cs : List AV} (hv : cs.all AV.one = true) : bx h (.agg cs) = some (.ptr h.length 0, h ++ [.arr cs false]) := bx_one hv
theorem wrap_i64 {z : Int} (h1 : -9223372036854775808 ≤ z) (h2 : z ≤ 9223372036854775807) : IntKind.wrap .i64 z = z := by
  simp [IntKind.wrap, IntKind.bits, IntKind.signed]; omega
theorem wrap_u64 {z : Int} (h1 : 0 ≤ z) (h2 : z ≤ 18446744073709551615) : IntKind.wrap .u64 z = z := by
  simp [IntKind.wrap, IntKind.bits, IntKind.signed]; omega
section
variable {α : Type} {f : α → List AV} {l : List α} {o : Own} {s : Nat}
theorem ixSlice_map {i : Nat} (hi : i < l.length) (hs : ∀ x, (f x).length = s) : ixSlice s (.list (l.map f) o) (.int k i) = some (.rptr (f l[i]) 0) := by
  simp [ixSlice, natOf, hs, hi]
@[simp] theorem ixSlice_zero {r : List AV} {rows : List (List AV)} (hr : r.length = s) : ixSlice s (.list (r :: rows) o) (.int k 0) = some (.rptr r 0) := by
  simp [ixSlice, natOf, hr]
theorem ap_map {l' : List α} {o' : Own} {bytes : Nat} {byte owned : Bool} (ho : mayApp o s owned = true) (h0 : s ≠ 0) (hs : ∀ x, (f x).length = s) (hb : (l.length + l'.length) * bytes ≤ 2 ^ 46) (hl : l.length + l'.length < 2 ^ 46) :
    apSlice s bytes byte owned h (.list (l.map f) o) (.list (l'.map f) o') = some (.list ((l ++ l').map f) (.own s)) := by
  have h1 : (l.map f).all (·.length == s) = true := by simp [hs]
  have h2 : (l'.map f).all (·.length == s) = true := by simp [hs]
  simp only [apSlice, rowsOf, Option.bind_some, List.length_map, ho, h1, h2, ne_eq, h0, not_false_eq_true, hb, hl, and_self, if_true, List.map_append]
@[simp] theorem mayApp_cap {owned : Bool} : mayApp .cap s owned = true := (Eq.refl _).trans rfl
@[simp] theorem mayApp_own : mayApp (.own s) s true = true := by simp [mayApp]
end
end
end Go.Ve

namespace Go.Ve
open Go
section
variable {P : Program}
def noCall : Cl := fun _ _ _ => none
theorem noCall_ok : CallOk P noCall := by intro f args h r he; cases he
theorem ext_body {A : FAnn} {f : FuncId} {fn : Func} {an : Ann} {c : Code} (hmix : P.follows .mixedOrders = true) (hf : P.funcs[f]? = some fn) (hb : fn.body = some c) (hok : resOk fn = true) (hq : A.q = []) {e : List AV → H → Option (AEnd × H)}
    (hc : ∀ args h r, e args h = some r → ∀ (vals : Array Value) (w : World) (g : Gh), HR w g h → ArgsRep w g args vals →
      ∃ args' v v' h' n, r = (.ret v, h') ∧ ArgsRep w g args' vals ∧ args'.length ≤ fn.ntmps ∧ retOk fn (.ret v') = true ∧ body P A noCall fn an n c args' h = some (.ret v', h') ∧
        ∀ (w' : World) (g' : Gh) u, Rep w' g' (fun p c => some (.res p c)) v' u → Rep w' g' (fun p c => some (.res p c)) v u) : ExtOk P f e := by
  intro args h r he vals w g hH ha
  obtain ⟨args', v, v', h', n, rfl, ha', hle, hro, hrun, hw⟩ := hc args h r he vals w g hH ha
  refine .inl ⟨callFunc_enter hf hb hok vals, ?_⟩
  refine (body_sound noCall_ok hf hb hmix (by rw [hq]; simp) hok hle hro hrun hH.strip ha'.strip).mono fun e w' hp => ?_
  have hp2 := hp.toCPost hH
  cases e with
  | returned u =>
    obtain ⟨y, g', h1, ev, hH', keep, hr⟩ := hp2
    cases h1
    exact ⟨v, g', rfl, ev, hH', keep, hw w' g' u hr⟩
  | panicked ch => obtain ⟨y, u, g', h1, _⟩ := hp2; cases h1
  | outgrown => exact hp2.elim
def cloneE (s bytes : Nat) : List AV → H → Option (AEnd × H)
  | [.list rows _], h => if rows.all (·.length == s) ∧ rows.length * bytes ≤ 2 ^ 46 ∧ rows.length < 2 ^ 46 then some (.ret (.list rows (.own s)), h) else none
  | _, _ => none
theorem argsRep_one {w : World} {g : Gh} {x : AV} {vals : Array Value} (ha : ArgsRep w g [x] vals) : ∃ u, vals = #[u] ∧ Rep w g wh0 x u := by
  obtain ⟨h1, h2⟩ := ha
  obtain ⟨l⟩ := vals
  match l, h1 with
  | [u], _ => exact ⟨u, rfl, h2 0 x u rfl rfl⟩
theorem argsRep_mk1 {w : World} {g : Gh} {x : AV} {u : Value} (h : Rep w g wh0 x u) : ArgsRep w g [x] #[u] := by
  refine ⟨rfl, fun j y v hy hv => ?_⟩
  cases j with
  | zero => simp at hy hv; subst hy; subst hv; exact h
  | succ j => simp at hy
theorem cloneE_ok {A : FAnn} {f : FuncId} {fn : Func} {an : Ann} {c : Code} (hmix : P.follows .mixedOrders = true) (hf : P.funcs[f]? = some fn) (hb : fn.body = some c) (hok : resOk fn = true) (hq : A.q = []) (hnt : 1 ≤ fn.ntmps) {s bytes : Nat} {byte : Bool} {z : List AV} (hs : s ≠ 0)
    (hbody : ∀ x0 h, body P A noCall fn an 0 c [x0] h = (slNil false x0).bind fun v1 => condV v1 (some (.ret (.list [] .cap), h)) ((mkRows s z 0 []).bind fun v2 => (apSlice s bytes byte false h v2 x0).bind fun v3 => some (.ret v3, h))) : ExtOk P f (cloneE s bytes) := by
  refine ext_body (an := an) hmix hf hb hok hq ?_
  intro args h r he vals w g hH ha
  unfold cloneE at he
  split at he
  · rename_i h' rows o
    split at he
    · rename_i hc
      obtain ⟨hall, hby, hlen⟩ := hc
      cases he
      obtain ⟨u, rfl, hr⟩ := argsRep_one ha
      have app : ∀ o', apSlice s bytes byte false h (.list [] .cap) (.list rows o') = some (.list rows (.own s)) := by
        intro o'
        simp only [apSlice, rowsOf, Option.bind_some, mayApp, hall, List.all_nil, List.length_nil, Nat.zero_add, ne_eq, hs, not_false_eq_true, hby, hlen, and_self, if_true, List.nil_append]
      cases hrows : rows with
      | cons r0 rs =>
        refine ⟨[.list rows o], .list (r0 :: rs) (.own s), .list (r0 :: rs) (.own s), h, 0, rfl, ha, by simpa using hnt, rfl, ?_, fun _ _ _ hr => hr⟩
        rw [hbody, hrows]
        rw [hrows] at app
        simp only [slNil, Option.bind_some, condV, Bool.false_eq_true, if_false]
        show ((mkRows s z 0 []).bind fun v2 => (apSlice s bytes byte false h v2 (.list (r0 :: rs) o)).bind fun v3 => some (AEnd.ret v3, h)) = _
        rw [show mkRows s z 0 [] = some (.list [] .cap) from rfl]
        simp only [Option.bind_some, app]
      | nil =>
        subst hrows
        cases hr with
        | @list _ _ _ a n cp b off s' fv hn hnc hne hl h1 h2 hroom =>
          cases a with
          | none =>
            refine ⟨[.list [] .nil], .list [] (.own s), .list [] .cap, h, 0, rfl, argsRep_mk1 (.list b off s' fv hn hnc hne hl h1 h2 rfl), by simpa using hnt, rfl, ?_, ?_⟩
            · rw [hbody]; rfl
            · intro w' g' u hr
              cases hr with
              | list b off s' fv hn hnc hne hl h1 h2 hroom => exact .list b off s' fv hn hnc hne hl h1 h2 (fun _ _ => .inl hroom)
          | some a =>
            refine ⟨[.list [] .mem], .list [] (.own s), .list [] (.own s), h, 0, rfl, argsRep_mk1 (.list b off s' fv hn hnc hne hl h1 h2 (by show some a ≠ none; simp)), by simpa using hnt, rfl, ?_, fun _ _ _ hr => hr⟩
            rw [hbody]
            simp only [slNil, Option.bind_some, condV, Bool.false_eq_true, if_false]
            show ((mkRows s z 0 []).bind fun v2 => (apSlice s bytes byte false h v2 (.list [] .mem)).bind fun v3 => some (AEnd.ret v3, h)) = _
            rw [show mkRows s z 0 [] = some (.list [] .cap) from rfl]
            simp only [Option.bind_some, app]
    · cases he
  · cases he
end
theorem den_ext {P : Program} {pol : Pol} {f : FuncId} {e : List AV → H → Option (AEnd × H)} {args : List AV} {h : H} {r : AEnd × H} (hx : pol.ext f = some e) (he : e args h = some r) : den P pol f args h = some r := by
  refine den_iff.2 ⟨1, fun m hm => ?_⟩
  obtain ⟨q, rfl⟩ : ∃ q, m = q + 1 := ⟨m - 1, by omega⟩
  unfold acall
  simp only [hx, he]
end Go.Ve

namespace Go.Ve
open Go
theorem acall_den {P : Program} {pol : Pol} : ∀ (n : Nat) (f : FuncId) (args : List AV) (h : H) (r : AEnd × H), acall P pol n f args h = some r → den P pol f args h = some r
  | 0, f, args, h, r, he => by simp [acall] at he
  | n + 1, f, args, h, r, he => by
    unfold acall at he
    cases hx : pol.ext f with
    | some e => rw [hx] at he; exact den_ext hx he
    | none =>
      rw [hx] at he
      simp only at he
      split at he
      · cases he
      · rename_i fn hf
        split at he
        · cases he
        · rename_i c hb
          split at he
          · rename_i hok
            have cc : CC (acall P pol n) (fun _ => den P pol) := fun f args h r hr => .of fun _ => acall_den n f args h r hr
            by_cases hm : pol.mode f = 0
            · have key : ∃ m, retChk fn (pureCall (body P (pol.ann f).1 (den P pol) fn (pol.ann f).2 m c) args h) = some r := by
                rw [if_pos hm] at he
                unfold retChk pureCall at he ⊢
                cases hmm : args.mapM (AV.freeze h) with
                | none => rw [hmm] at he; simp at he
                | some xs =>
                  rw [hmm] at he
                  simp only at he ⊢
                  cases hp : pureL xs with
                  | false => rw [hp] at he; simp at he
                  | true =>
                    rw [hp] at he
                    simp only [if_true] at he ⊢
                    cases hbd : body P (pol.ann f).1 (acall P pol n) fn (pol.ann f).2 n c xs [] with
                    | none => rw [hbd] at he; simp at he
                    | some r0 =>
                      rw [hbd] at he
                      obtain ⟨N, hN⟩ := body_late cc hbd
                      exact ⟨N, by rw [hN N (Nat.le_refl _)]; exact he⟩
              obtain ⟨m, hk⟩ := key
              exact den_pure hx hf hb hm hok m hk
            · have key : ∃ m, retChk fn (body P (pol.ann f).1 (den P pol) fn (pol.ann f).2 m c args h) = some r := by
                rw [if_neg hm] at he
                unfold retChk at he ⊢
                cases hbd : body P (pol.ann f).1 (acall P pol n) fn (pol.ann f).2 n c args h with
                | none => rw [hbd] at he; simp at he
                | some r0 =>
                  rw [hbd] at he
                  obtain ⟨N, hN⟩ := body_late cc hbd
                  exact ⟨N, by rw [hN N (Nat.le_refl _)]; exact he⟩
              obtain ⟨m, hk⟩ := key
              exact den_here hx hf hb hm hok m hk
          · cases he
theorem den_any {P : Program} {pol : Pol} {f : FuncId} (hf : pol.still f = true) {args : List AV} {e : AEnd} {h' : H} (he : den P pol f args [] = some (e, h')) (h : H) : den P pol f args h = some (e, h) := by
  have he2 := den_iff.1 he
  refine den_iff.2 (he2.imp fun m hm => ?_)
  have := (acall_still hf m args [] e h' hm).2 h
  simpa using this
end Go.Ve

namespace Go.Ve
open Go Go.ChangeShapes Go.RowKit
def ShapeVs (P : Program) (n : Nat) : List TypeId → List AV → Prop
  | [], [] => True
  | t :: ts, v :: vs => ShapeV P n t v ∧ ShapeVs P n ts vs
  | _, _ => False
section
variable {P : Program} {H : Type} {enc : TypeId × Value → H}
theorem trodAll_len {w : World} {b : Nat} {sp : Nat → Bool} {hd : Bool} : ∀ {ts : List TypeId} {vs : List Value} {ds : List (DataW H)} {ps : List MemPlace}, DataW.TrodAll enc P w b sp hd ts vs ds ps → vs.length = ts.length ∧ ds.length = ts.length
  | [], vs, ds, ps, h => by obtain ⟨rfl, rfl, rfl⟩ := trodAll_nil h; exact ⟨rfl, rfl⟩
  | t :: ts, vs, ds, ps, h => by
    obtain ⟨v, vs', d, ds', p, q, rfl, rfl, rfl, _, h2⟩ := trodAll_cons h
    have := trodAll_len h2
    simp [this.1, this.2]
theorem read_args {W : World} {n base : Nat} {r : Reach} : ∀ (ts : List TypeId) (vs : List Value) (ds : List (DataW H)) (ps : List MemPlace), ts.all (plainT P n) = true →
    (∀ (j : Nat) t v, ts[j]? = some t → vs[j]? = some v → Value.okWide P W r base t v) → DataW.TrodAll enc P W 0 (fun _ => true) true ts vs ds ps →
    ∃ avs, ShapeVs P n ts avs ∧ ArgsL W (gOld W) avs vs
  | [], vs, ds, ps, _, _, h => by obtain ⟨rfl, rfl, rfl⟩ := trodAll_nil h; exact ⟨[], trivial, trivial⟩
  | t :: ts, vs, ds, ps, hp, hv, h => by
    obtain ⟨v, vs', d, ds', p, q, rfl, rfl, rfl, h1, h2⟩ := trodAll_cons h
    rw [List.all_cons, Bool.and_eq_true] at hp
    obtain ⟨avs, a1, a2⟩ := read_args ts vs' ds' q hp.2 (fun j t' v' ht hv' => hv (j + 1) t' v' (by simpa using ht) (by simpa using hv')) h2
    have hst : ∀ b k, b < W.heap.size → (gOld W).st b k := fun b k hb => hb
    have hv0 := hv 0 t v rfl rfl
    obtain ⟨av, b1, b2⟩ := read_arg (g := gOld W) hst hp.1 hv0 h1
    exact ⟨av :: avs, ⟨b1, a1⟩, b2, a2⟩
theorem trod_back (hl : laidOutB P = true) {W W' : World} (hb : Below W.heap.size W W') : ∀ (ts : List TypeId) (vs : List Value) (ds : List (DataW H)) (ps : List MemPlace),
    ts.all (fun t => P.readableRec t && decide (t < P.types.size)) = true → DataW.TrodAll enc P W 0 (fun _ => true) true ts vs ds ps →
    DataW.TrodAll enc P W' 0 (fun b => decide (b < W.heap.size)) true ts vs ds ps
  | [], vs, ds, ps, _, h => by obtain ⟨rfl, rfl, rfl⟩ := trodAll_nil h; exact trodAll_mk0
  | t :: ts, vs, ds, ps, hp, h => by
    obtain ⟨v, vs', d, ds', p, q, rfl, rfl, rfl, h1, h2⟩ := trodAll_cons h
    rw [List.all_cons, Bool.and_eq_true, Bool.and_eq_true, decide_eq_true_eq] at hp
    refine trodAll_cons_mk (Below.trod hl hp.1.1 hp.1.2 h1 hb ?_) (trod_back hl hb ts vs' ds' q hp.2 h2)
    obtain ⟨m, hm⟩ := h1
    exact DataW.trod_lt m _ _ _ hm
structure LawOk (P : Program) (f : FuncId) (fn : Func) (c : Code) (rt : TypeId) : Prop where
  hl : laidOutB P = true
  hf : P.funcs[f]? = some fn
  hb : fn.body = some c
  hok : resOk fn = true
  hp : fn.params.toList.all (plainT P 50) = true
  hr : fn.params.toList.all (fun t => P.readableRec t && decide (t < P.types.size)) = true
  res : fn.resultTypes.toList = [rt]
  bool : P.underlying rt = some .bool
theorem law_contract {f : FuncId} {fn : Func} {c : Code} {rt : TypeId} {s : ChangeSpec} {pol : Pol} (hpol : PolOk P pol) (ok : LawOk P f fn c rt)
    (hs : ∀ ds : List (DataW H), ds.length = fn.params.toList.length → s.fn H ds = { results := [.lit (.bool true)], args := ds }) (hv : s.vars = []) {W : World} {base : Nat} {args : Array Value} {ds gs : List (DataW H)} {before : List MemPlace}
    (law : ∀ avs, ShapeVs P 50 fn.params.toList avs → ∃ h', den P pol f avs [] = some (.ret (.bool true), h'))
    (hval : ∀ (j : Nat) t v, fn.params[j]? = some t → args[j]? = some v → Value.okWide P W .any base t v) (hW : DataW.Whole enc P fn.params.toList s.vars false W args.toList ds gs before) :
    Calls P f args W fun e W' => ∃ v, e = .returned v ∧ s.post enc P fn false true false false W args v W' := by
  have hW' := hW
  obtain ⟨p, q, hA, hV, rfl, hfz, hnd⟩ := hW
  rw [hv] at hV
  obtain ⟨rfl, rfl⟩ := trodVars_none hV
  obtain ⟨avs, h1, h2⟩ := read_args fn.params.toList args.toList ds p ok.hp (fun j t v ht hv => hval j t v (by rw [← Array.getElem?_toList]; exact ht) (by rw [← Array.getElem?_toList]; exact hv)) hA
  refine (law_calls hpol ok.hf ok.hb ok.hok h2 (law avs h1)).mono fun e W' ⟨he, bel⟩ => ?_
  subst he
  have e1 := hs (ds ++ []) (by rw [List.append_nil]; exact (trodAll_len hA).2)
  refine ⟨_, rfl, ds, [], _, [], p, [], hW', ?_, ?_, ?_, bel.frame _, fun h => by cases h⟩
  · rw [e1, ok.res]
    have e2 : fn.resultTypes.size = 1 := by rw [← Array.length_toList, ok.res]; rfl
    rw [e2]
    exact trodAll_mk1 (shut_bool ok.bool _)
  · rw [e1, List.append_nil]
    exact trod_back ok.hl bel _ _ _ _ ok.hr hA
  · rw [e1, hv]
    rfl
end
section
variable {P : Program} {n : Nat} {t : TypeId}
theorem shapeV_one {v : AV} (ha : isAgg P t = false) (h : ShapeV P n t v) : Shape P n t [v] := by
  unfold ShapeV at h
  rw [ha] at h
  exact h
theorem shape_slice {e : TypeId} {avs : List AV} (hu : P.underlying t = some (.slice e)) (h : Shape P (n + 1) t avs) : ∃ rows, avs = [.list rows .no] ∧ rows.length ≤ maxLen ∧ ∀ r ∈ rows, Shape P n e r := by
  unfold Shape at h; rw [hu] at h; exact h
theorem shape_struct {fs : Array Field} {avs : List AV} (hu : P.underlying t = some (.struct fs)) (h : Shape P (n + 1) t avs) : ShapeFs (Shape P n) fs.toList avs := by
  unfold Shape at h; rw [hu] at h; exact h
theorem shape_int {k : IntKind} {avs : List AV} (hu : P.underlying t = some (.int k)) (h : Shape P (n + 1) t avs) : ∃ z, avs = [.int k z] ∧ k.min ≤ z ∧ z ≤ k.max := by
  unfold Shape at h; rw [hu] at h; exact h
theorem shape_string {avs : List AV} (hu : P.underlying t = some .string) (h : Shape P (n + 1) t avs) : ∃ s : List UInt8, avs = [.str s] ∧ s.length ≤ maxLen := by
  unfold Shape at h; rw [hu] at h; exact h
theorem shapeVs1 {t : TypeId} {avs : List AV} (h : ShapeVs P n [t] avs) : ∃ a, avs = [a] ∧ ShapeV P n t a := by
  match avs, h with
  | [a], ⟨h1, _⟩ => exact ⟨a, rfl, h1⟩
  | [], h => exact h.elim
  | _ :: _ :: _, ⟨_, h⟩ => exact h.elim
end
end Go.Ve

namespace Go.Ve
open Go
abbrev BL (l : List UInt8) (o : Own := .no) : AV := .list (l.map byteRow) o
abbrev bv (b : UInt8) : AV := .int .u8 b.toNat
@[simp] theorem byteRow_len (b : UInt8) : (byteRow b).length = 1 := rfl
@[simp] theorem byteRow_pure (b : UInt8) : pureL (byteRow b) = true := rfl
theorem byteRow_0 (b : UInt8) : (byteRow b)[0]? = some (bv b) := rfl
@[simp] theorem BL_pure (l : List UInt8) : pureR (l.map byteRow) = true := pureR_map byteRow_pure
theorem BL_canon (l : List UInt8) (o : Own) : AV.canon (BL l o) = BL l := rfl
theorem BL_len (l : List UInt8) (o : Own) : lnSl (BL l o) = some (.int .i64 l.length) := by simp [BL]
theorem BL_at {k : IntKind} {l : List UInt8} {o : Own} {i : Nat} (hi : i < l.length) : ixSlice 1 (BL l o) (.int k i) = some (.rptr (byteRow l[i]) 0) := ixSlice_map hi byteRow_len
theorem BL_app {l l' : List UInt8} {o o' : Own} {owned : Bool} {h : H} (ho : mayApp o 1 owned = true) (hl : l.length + l'.length ≤ 2 ^ 40) : apSlice 1 1 true owned h (BL l o) (BL l' o') = some (BL (l ++ l') (.own 1)) := by
  have := ap_map (h := h) (f := byteRow) (l := l) (l' := l') (o := o) (o' := o') (bytes := 1) (byte := true) (owned := owned) ho (by decide) byteRow_len (by omega) (by omega)
  exact this
theorem BL_str (l : List UInt8) : strBytes (.str l) = some (BL l (.own 1)) := rfl
theorem rowByte_all : ∀ l : List UInt8, (l.map byteRow).mapM rowByte = some l
  | [] => rfl
  | b :: l => by
    rw [List.map_cons, List.mapM_cons, rowByte_all l]
    simp [byteRow, rowByte]
theorem BL_toStr {h : H} (l : List UInt8) (o : Own) : bytesStr h (BL l o) = some (.str l) := by
  show ((l.map byteRow).mapM rowByte).map AV.str = _
  rw [rowByte_all]; rfl
theorem bv_of {z : Int} (h1 : 0 ≤ z) (h2 : z < 256) : AV.int .u8 z = bv (UInt8.ofNat z.toNat) := by
  have : ((UInt8.ofNat z.toNat).toNat : Int) = z := by
    rw [UInt8.toNat_ofNat']
    omega
  rw [bv, this]
theorem bv_nat {n : Nat} (h : n < 256) : AV.int .u8 (n : Int) = bv (UInt8.ofNat n) := by
  rw [bv_of (by omega) (by omega)]; rfl
theorem row1 (b : UInt8) : mkRows 1 [.int .u8 0] 1 [(0, bv b)] = some (BL [b] .cap) := rfl
theorem shr_u64 {n k : Nat} (hk : k < 64) : bin .shr (.int .u64 (n : Int)) (.int .u64 (k : Int)) = some (.int .u64 ((n / 2 ^ k : Nat) : Int)) := by
  rw [bin_shr]
  unfold shiftBin
  rw [if_neg (by omega)]
  simp only [IntKind.bits, Int.toNat_natCast, show min k 64 = k by omega]
  rw [show ((2 : Int) ^ k) = ((2 ^ k : Nat) : Int) by simp, Int.ofNat_fdiv]
theorem cv_u8 {k : IntKind} (n : Nat) : cvInt .u8 (.int k (n : Int)) = some (bv (UInt8.ofNat n)) := by
  rw [cvInt_int]
  have : IntKind.wrap .u8 (n : Int) = ((n % 256 : Nat) : Int) := by simp [IntKind.wrap, IntKind.bits, IntKind.signed]
  rw [this, bv_nat (Nat.mod_lt _ (by decide))]
  congr 1
  show AV.int .u8 _ = AV.int .u8 _
  congr 2
  rw [UInt8.toNat_ofNat', UInt8.toNat_ofNat']; omega
theorem or_128 (b : UInt8) : bin .or (bv b) (.int .u8 128) = some (bv (UInt8.ofNat (b.toNat % 128 + 128))) := by
  have key : ∀ n : Fin 256, IntKind.wrap .u8 (((BitVec.ofInt 8 (n.val : Int)) ||| (BitVec.ofInt 8 128)).toNat : Int) = ((n.val % 128 + 128 : Nat) : Int) := by decide +kernel
  have h := key ⟨b.toNat, b.toNat_lt⟩
  rw [bin_or]
  show some (AV.int .u8 (IntKind.wrap .u8 (((BitVec.ofInt 8 (b.toNat : Int)) ||| (BitVec.ofInt 8 128)).toNat : Int))) = _
  rw [h, bv_nat (by omega)]
def lebB (n : Nat) : List UInt8 := if n < 128 then [UInt8.ofNat n] else UInt8.ofNat (n % 128 + 128) :: lebB (n / 128)
termination_by n
decreasing_by omega
theorem lebB_small {n : Nat} (h : n < 128) : lebB n = [UInt8.ofNat n] := by rw [lebB, if_pos h]
theorem lebB_big {n : Nat} (h : ¬ n < 128) : lebB n = UInt8.ofNat (n % 128 + 128) :: lebB (n / 128) := by rw [lebB, if_neg h]
theorem lebB_len : ∀ (m n : Nat), n < 128 ^ (m + 1) → (lebB n).length ≤ m + 1
  | 0, n, h => by rw [lebB_small (by omega)]; simp
  | m + 1, n, h => by
    by_cases hn : n < 128
    · rw [lebB_small hn]; simp
    · rw [lebB_big hn]
      have := lebB_len m (n / 128) (by rw [Nat.pow_succ] at h; omega)
      simp; omega
theorem lebB_10 {n : Nat} (h : n < 2 ^ 64) : (lebB n).length ≤ 10 := lebB_len 9 n (by omega)
end Go.Ve

namespace Go.Ve
open Go
end Go.Ve

namespace Go.Ve
open Go
structure Keep (ids : List Nat) (h h' : H) : Prop where
  len : h.length ≤ h'.length
  same : ∀ j, j < h.length → j ∉ ids → h'[j]? = h[j]?
theorem Keep.refl (ids : List Nat) (h : H) : Keep ids h h := ⟨Nat.le_refl _, fun _ _ _ => rfl⟩
theorem Keep.trans {ids : List Nat} {h h' h'' : H} (k : Keep ids h h') (l : Keep ids h' h'') : Keep ids h h'' :=
  ⟨Nat.le_trans k.len l.len, fun j hj hn => by rw [l.same j (Nat.lt_of_lt_of_le hj k.len) hn, k.same j hj hn]⟩
theorem Keep.mono {ids ids' : List Nat} {h h' : H} (k : Keep ids h h') (hs : ∀ j, j ∈ ids → j ∈ ids') : Keep ids' h h' :=
  ⟨k.len, fun j hj hn => k.same j hj fun hm => hn (hs j hm)⟩
theorem Keep.nil {ids : List Nat} {h h' : H} (k : Keep [] h h') : Keep ids h h' := k.mono (fun _ hj => nomatch hj)
theorem Keep.set {ids : List Nat} {h : H} {id : Nat} {x : AObj} (hi : id ∈ ids) : Keep ids h (h.set id x) :=
  ⟨by simp, fun j _ hn => by rw [List.getElem?_set_ne (fun e => hn (by rw [← e]; exact hi))]⟩
theorem Keep.app {ids : List Nat} {h x : H} : Keep ids h (h ++ x) :=
  ⟨by simp, fun j hj _ => List.getElem?_append_left hj⟩
theorem Keep.drop {ids : List Nat} {id : Nat} {h h' : H} (k : Keep (id :: ids) h h') (hi : h.length ≤ id) : Keep ids h h' :=
  ⟨k.len, fun j hj hn => k.same j hj (by simp; exact ⟨by omega, hn⟩)⟩
theorem Keep.get {ids : List Nat} {h h' : H} {j : Nat} {x : AObj} (k : Keep ids h h') (hj : h[j]? = some x) (hn : j ∉ ids) : h'[j]? = some x := by
  rw [k.same j (List.getElem?_eq_some_iff.mp hj).1 hn, hj]
theorem get_lt {h : H} {j : Nat} {x : AObj} (hj : h[j]? = some x) : j < h.length := (List.getElem?_eq_some_iff.mp hj).1
theorem get_set {h : H} {j : Nat} {x y : AObj} (hj : h[j]? = some x) : (h.set j y)[j]? = some y := by
  rw [List.getElem?_set_self (get_lt hj)]
theorem get_new {h : H} {x : AObj} : (h ++ [x])[h.length]? = some x := by simp
section
variable {h : H} {id off : Nat} {cs : List AV} {k : IntKind} {z : Int}
theorem ld_at {ro : Bool} (hc : h[id]? = some (.arr cs ro)) : ldCell h (.ptr id off) = cs[off]? := by rw [ldCell_ptr, hc, objCell_arr]
theorem ldA_at {ro : Bool} {n : Nat} (hc : h[id]? = some (.arr cs ro)) : ldAgg n h (.ptr id off) = aggAt n cs off := by rw [ldAgg_ptr, hc, objAgg_arr]
theorem st_int (hc : h[id]? = some (.arr cs false)) (ho : off < cs.length) : stN 1 h (.ptr id off) (.int k z) = some (.undef, h.set id (.arr (cs.set off (.int k z)) false)) := by
  rw [stN_ptr, hc, objSet_arr]; simp [splice, ho]
theorem st_list {rows : List (List AV)} {o : Own} (hc : h[id]? = some (.arr cs false)) (ho : off < cs.length) : stN 1 h (.ptr id off) (.list rows o) = some (.undef, h.set id (.arr (cs.set off (.list rows o)) false)) := by
  rw [stN_ptr, hc, objSet_arr]; simp [splice, ho]
theorem ldTake_list {rows : List (List AV)} {o : Own} (hc : h[id]? = some (.arr cs false)) (ho : cs[off]? = some (.list rows o)) : ldTake h (.ptr id off) = some (.list rows o, h.set id (.arr (cs.set off (AV.copy (.list rows o))) false)) := by
  have hl : off < cs.length := (List.getElem?_eq_some_iff.mp ho).1
  unfold ldTake
  rw [ld_at hc, ho]
  simp only [bind_some']
  cases o with
  | no => rw [copy_no, st_list hc hl]; rfl
  | cap => rw [copy_cap, st_list hc hl]; rfl
  | own s => rw [copy_own, st_list hc hl]; rfl
  | nil => rw [show AV.copy (.list rows .nil) = .list rows .nil from rfl, st_list hc hl]; rfl
  | mem => rw [show AV.copy (.list rows .mem) = .list rows .mem from rfl, st_list hc hl]; rfl
end
structure Rd where
  b : List UInt8
  p : Nat
  e : Nat
def Rd.ok (r : Rd) : Prop := r.p ≤ r.b.length ∧ r.b.length ≤ 2 ^ 32 ∧ r.e ≤ 100
def Rd.cells (r : Rd) (o : Own) : List AV := [BL r.b o, .int .i64 r.p, .int .i64 r.e]
def RdAt (h : H) (id : Nat) (r : Rd) : Prop := ∃ o, h[id]? = some (.arr (r.cells o) false)
theorem Keep.rd {ids : List Nat} {h h' : H} {id : Nat} {r : Rd} (k : Keep ids h h') (hr : RdAt h id r) (hn : id ∉ ids) : RdAt h' id r := hr.imp fun _ ho => k.get ho hn
theorem RdAt.lt {h : H} {id : Nat} {r : Rd} (hr : RdAt h id r) : id < h.length := get_lt hr.choose_spec
end Go.Ve

namespace Go.Ve
open Go
theorem toNat_lt {n : Nat} (h : n < 256) : (UInt8.ofNat n).toNat = n := by rw [UInt8.toNat_ofNat']; omega
structure Rd.At (r : Rd) (t : List UInt8) : Prop where
  e : r.e = 0
  d : r.b.drop r.p = t
  l : r.p ≤ r.b.length
def Rd.go (r : Rd) (n : Nat) : Rd := ⟨r.b, r.p + n, r.e⟩
theorem Rd.At.next {r : Rd} {x t : List UInt8} (h : r.At (x ++ t)) : (r.go x.length).At t := by
  refine ⟨h.e, ?_, ?_⟩
  · show r.b.drop (r.p + x.length) = t
    rw [← List.drop_drop, h.d, List.drop_append_of_le_length (Nat.le_refl _), List.drop_length, List.nil_append]
  · have := congrArg List.length h.d
    rw [List.length_drop, List.length_append] at this
    show r.p + x.length ≤ r.b.length
    have := h.l
    omega
end Go.Ve

namespace Go.Ve
open Go
end Go.Ve

namespace Go.Ve
open Go
def flipB (l : List UInt8) (k : Nat) : List UInt8 := l.set (k / 8) (UInt8.ofNat ((l.getD (k / 8) 0).toNat ^^^ 2 ^ (k % 8)))
def turnL : Nat → Nat → Nat → List UInt8 → Nat → List UInt8
  | 0, _, _, l, _ => l
  | d + 1, i, a, l, t => turnL d (i + 1) a (if t % 2 = 1 ∧ a + i < 8 * l.length then flipB l (a + i) else l) (t / 2)
@[simp] theorem flipB_len (l : List UInt8) (k : Nat) : (flipB l k).length = l.length := by simp [flipB]
@[simp] theorem turnL_len : ∀ (d i a : Nat) (l : List UInt8) (t : Nat), (turnL d i a l t).length = l.length
  | 0, _, _, _, _ => rfl
  | d + 1, i, a, l, t => by
    rw [turnL, turnL_len d]
    split <;> simp
end Go.Ve

namespace Go.Ve
open Go
abbrev Tx := List UInt8
theorem less_eq : ∀ (x y : Tx), Op.bytesLess x y = decide (x < y)
  | [], [] => by simp [Op.bytesLess]
  | _ :: _, [] => by simp [Op.bytesLess]
  | [], _ :: _ => by simp [Op.bytesLess]
  | a :: x, b :: y => by
    rw [Op.bytesLess, less_eq x y]
    simp only [List.cons_lt_cons_iff]
    by_cases h1 : a < b <;> by_cases h2 : a = b <;> by_cases h3 : x < y <;> simp [h1, h2, h3]
theorem tx_irrefl (x : Tx) : ¬ x < x := List.lt_irrefl x
theorem tx_trans {x y z : Tx} (h1 : x < y) (h2 : y < z) : x < z := List.lt_trans h1 h2
theorem tx_tri (x y : Tx) : x < y ∨ x = y ∨ y < x := by
  by_cases h1 : x < y
  · exact .inl h1
  · by_cases h2 : y < x
    · exact .inr (.inr h2)
    · exact .inr (.inl (List.le_antisymm (List.not_lt.mp h2) (List.not_lt.mp h1)))
theorem tx_asymm {x y : Tx} (h1 : x < y) : ¬ y < x := fun h2 => tx_irrefl x (tx_trans h1 h2)
def ofL (l : List Tx) : List Tx := Lib.compact (l.mergeSort fun x y => decide (x ≤ y))
end Go.Ve

namespace Go.Ve
open Go Go.RowKit
section
variable {P : Program} {w w' : World} {g : Gh} {h : H}
theorem below_ev (hH : HR w g h) (hb : Below w.heap.size w w') {S : Nat → Nat → Prop} (hS : ∀ b k, S b k → w.heap.size ≤ b ∧ b < w'.heap.size) :
    Ev w g w' ⟨g.own, fun b k => g.st b k ∨ S b k, g.rsv⟩ ∧ HR w' ⟨g.own, fun b k => g.st b k ∨ S b k, g.rsv⟩ h ∧ ∀ l, Keeps w g w' ⟨g.own, fun b k => g.st b k ∨ S b k, g.rsv⟩ l l := by
  have keep : ∀ l, Keeps w g w' ⟨g.own, fun b k => g.st b k ∨ S b k, g.rsv⟩ l l := by
    intro l b hl
    have hlt := hH.lt b l hl
    refine ⟨hl, hb.block b hlt, fun k hk => ?_⟩
    rcases hk with hk | hk
    · exact hk
    · have := (hS b k hk).1; omega
  have ev : Ev w g w' ⟨g.own, fun b k => g.st b k ∨ S b k, g.rsv⟩ := by
    refine ⟨hb.size, fun b k hs => ⟨.inl hs, ?_⟩, fun b id hb' => hb', fun b hlt hn => ⟨hn, hb.block b hlt, fun k hk => ?_⟩, by rw [hb.os, hb.tape], hb.output, fun _ h => h⟩
    · have hlt := hH.stlt b k hs
      simp [World.cell?, hb.block b hlt]
    · rcases hk with hk | hk
      · exact hk
      · have := (hS b k hk).1; omega
  refine ⟨ev, ⟨fun id o hid ht => (hH.obj id o hid ht).mono ev.mono (fun b hb' => (keep _ b hb').2) (fun j => keep _), hH.inj, fun b l hl => Nat.lt_of_lt_of_le (hH.lt b l hl) hb.size, hH.bd, fun b k hs => ?_, hH.rsv, hH.rlt⟩, keep⟩
  rcases hs with hs | hs
  · exact Nat.lt_of_lt_of_le (hH.stlt b k hs) hb.size
  · exact (hS b k hs).2
abbrev txRow (s : Tx) : List AV := [.str s]
structure OfIs (P : Program) (f : FuncId) (e : TypeId) : Prop where
  any : ∀ (b off n c : Nat) (zs : List ByteArray) (w : World), n ≤ zs.length → n * 16 ≤ 140737488355328 → (∀ j, j < zs.length → w.cell? ⟨b, off + j, none⟩ = some (.string (zs.getD j ByteArray.empty))) →
    Calls P f #[.slice (some ⟨b, off, none⟩) n c] w fun r w' => ∃ g cap, r = .returned (.slice (some ⟨g, 0, none⟩) (ofL ((zs.take n).map (·.data.toList))).length cap) ∧ w'.ownsRow w.heap.size e 1 (.slice (some ⟨g, 0, none⟩) (ofL ((zs.take n).map (·.data.toList))).length cap) (ofL ((zs.take n).map (·.data.toList))).length ((ofL ((zs.take n).map (·.data.toList))).map fun s => .string ⟨s.toArray⟩) ∧ Below w.heap.size w w'
  zero : ∀ (a : Addr) (c : Nat) (w : World), Calls P f #[.slice (some a) 0 c] w fun r w' => ∃ g cap, r = .returned (.slice (some ⟨g, 0, none⟩) 0 cap) ∧ Below w.heap.size w w'
  none : ∀ (n c : Nat) (w : World), Calls P f #[.slice none n c] w fun r w' => r = .returned (.slice none 0 0) ∧ w' = w
end
end Go.Ve

namespace Go.Ve
open Go
structure Strict (lt : Nat → Nat → Prop) : Prop where
  irrefl : ∀ x, ¬ lt x x
  trans : ∀ {x y z}, lt x y → lt y z → lt x z
  tri : ∀ x y, lt x y ∨ x = y ∨ lt y x
section
variable {lt : Nat → Nat → Prop}
abbrev Up (lt : Nat → Nat → Prop) (l : List Nat) : Prop := l.Pairwise lt
theorem Strict.asymm (s : Strict lt) {x y : Nat} (h : lt x y) : ¬ lt y x := fun h' => s.irrefl x (s.trans h h')
structure IsMerge (lt : Nat → Nat → Prop) (r a b : List Nat) : Prop where
  up : Up lt r
  mem : ∀ z, z ∈ r ↔ z ∈ a ∨ z ∈ b
  len : r.length = a.length + b.length
theorem merge_nil_left {b : List Nat} (h : Up lt b) : IsMerge lt b [] b := ⟨h, fun z => by simp, by simp⟩
theorem merge_nil_right {a : List Nat} (h : Up lt a) : IsMerge lt a a [] := ⟨h, fun z => by simp, by simp⟩
theorem merge_app {r1 a1 b1 r2 a2 b2 : List Nat} (m1 : IsMerge lt r1 a1 b1) (m2 : IsMerge lt r2 a2 b2) (h : ∀ x y, (x ∈ a1 ∨ x ∈ b1) → (y ∈ a2 ∨ y ∈ b2) → lt x y) : IsMerge lt (r1 ++ r2) (a1 ++ a2) (b1 ++ b2) where
  up := List.pairwise_append.mpr ⟨m1.up, m2.up, fun x hx y hy => h x y ((m1.mem x).mp hx) ((m2.mem y).mp hy)⟩
  mem z := by
    simp only [List.mem_append, m1.mem z, m2.mem z]
    constructor
    · rintro ((h | h) | (h | h))
      · exact .inl (.inl h)
      · exact .inr (.inl h)
      · exact .inl (.inr h)
      · exact .inr (.inr h)
    · rintro ((h | h) | (h | h))
      · exact .inl (.inl h)
      · exact .inr (.inl h)
      · exact .inl (.inr h)
      · exact .inr (.inr h)
  len := by simp only [List.length_append, m1.len, m2.len]; omega
theorem merge_one (s : Strict lt) {x : Nat} {p q : List Nat} (hp : Up lt (p ++ q)) (h1 : ∀ y ∈ p, lt y x) (h2 : ∀ y ∈ q, lt x y) : Up lt (p ++ x :: q) ∧ ∀ z, z ∈ p ++ x :: q ↔ z = x ∨ z ∈ p ++ q := by
  obtain ⟨u1, u2, u3⟩ := List.pairwise_append.mp hp
  refine ⟨List.pairwise_append.mpr ⟨u1, List.pairwise_cons.mpr ⟨h2, u2⟩, fun y hy z hz => ?_⟩, fun z => ?_⟩
  · rcases List.mem_cons.mp hz with rfl | hz
    · exact h1 y hy
    · exact u3 y hy z hz
  · simp only [List.mem_append, List.mem_cons]
    constructor
    · rintro (h | h | h)
      · exact .inr (.inl h)
      · exact .inl h
      · exact .inr (.inr h)
    · rintro (h | h | h)
      · exact .inr (.inl h)
      · exact .inl h
      · exact .inr (.inr h)
theorem merge_left (s : Strict lt) {x : Nat} {p q : List Nat} (hp : Up lt (p ++ q)) (h1 : ∀ y ∈ p, lt y x) (h2 : ∀ y ∈ q, lt x y) : IsMerge lt (p ++ x :: q) [x] (p ++ q) := by
  obtain ⟨u, m⟩ := merge_one s hp h1 h2
  exact ⟨u, fun z => by rw [m z, List.mem_singleton], by simp; omega⟩
theorem merge_right (s : Strict lt) {x : Nat} {p q : List Nat} (hp : Up lt (p ++ q)) (h1 : ∀ y ∈ p, lt y x) (h2 : ∀ y ∈ q, lt x y) : IsMerge lt (p ++ x :: q) (p ++ q) [x] := by
  obtain ⟨u, m⟩ := merge_one s hp h1 h2
  refine ⟨u, fun z => ?_, by simp; omega⟩
  rw [m z, List.mem_singleton]
  exact Or.comm
end
abbrev nvs (l : List Nat) : List AV := l.map fun n : Nat => .int .i64 (n : Int)
theorem nvs_set (l : List Nat) (i n : Nat) : (nvs l).set i (.int .i64 (n : Int)) = nvs (l.set i n) := by simp [List.map_set]
theorem at_len {p q : List Nat} {x : Nat} : (p ++ x :: q)[p.length]? = some x := by simp
theorem at_len1 {p q : List Nat} {x y : Nat} : (p ++ x :: y :: q)[p.length + 1]? = some y := by simp
theorem swap_next {p q : List Nat} {x y : Nat} : ((p ++ x :: y :: q).set p.length y).set (p.length + 1) x = p ++ y :: x :: q := by simp
theorem swap_two {p m q : List Nat} {x y : Nat} : ((p ++ x :: (m ++ y :: q)).set p.length y).set (p.length + 1 + m.length) x = p ++ y :: (m ++ x :: q) := by
  rw [List.set_append_right _ _ (Nat.le_refl _), Nat.sub_self, List.set_cons_zero, List.set_append_right _ _ (show p.length ≤ p.length + 1 + m.length by omega), show p.length + 1 + m.length - p.length = m.length + 1 by omega, List.set_cons_succ, List.set_append_right _ _ (Nat.le_refl _), Nat.sub_self, List.set_cons_zero]
theorem two_at {p m q : List Nat} {x y : Nat} : (p ++ x :: (m ++ y :: q))[p.length + 1 + m.length]? = some y := by
  rw [List.getElem?_append_right (by omega), show p.length + 1 + m.length - p.length = m.length + 1 by omega, List.getElem?_cons_succ, List.getElem?_append_right (by omega), Nat.sub_self]
  rfl
end Go.Ve
