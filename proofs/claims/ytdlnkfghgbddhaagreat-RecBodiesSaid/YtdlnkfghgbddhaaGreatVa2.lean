/- VE: rooms handed on; memory made. -/
import Derived.Test.YtdlnkfghgbddhaaGreatVa1
import Derived.Laws.IdiomCopy
import Derived.Deep.Upon
import Derived.Room.Entries
set_option linter.all false

namespace Go.Ve
open Go

def Gh.map (g : Gh) (ρ : Loc → Loc) : Gh := ⟨fun b => (g.own b).map ρ, g.st, g.rsv⟩

/-- A turn of places that leaves the heap's places as they are. -/
structure Turn (ρ : Loc → Loc) : Prop where
  obj : ∀ id, ρ (.obj id) = .obj id
  cell : ∀ id j, ρ (.cell id j) = .cell id j
  back : ∀ l id, ρ l = .obj id → l = .obj id

section
variable {w : World} {g : Gh} {ρ : Loc → Loc}

theorem Turn.keeps (l : Loc) : Keeps w g w (g.map ρ) l (ρ l) := fun b h => ⟨by simp [Gh.map, h], rfl, fun _ h => h⟩
theorem Turn.ev (t : Turn ρ) : Ev w g w (g.map ρ) where
  size := Nat.le_refl _
  st _ _ h := ⟨h, rfl⟩
  obj b id h := by simp [Gh.map, h, t.obj]
  old b _ h := ⟨by simp [Gh.map, h], rfl, fun _ h => h⟩
  os := rfl
  out := rfl
  rsv _ h := h
theorem Turn.hr (t : Turn ρ) {h : H} (hH : HR w g h) : HR w (g.map ρ) h where
  obj id o hid ht := (hH.obj id o hid (by obtain ⟨b, hb⟩ := ht; simp only [Gh.map, Option.map_eq_some_iff] at hb; obtain ⟨l, e, f⟩ := hb; rw [t.back _ _ f] at e; exact ⟨b, e⟩)).mono t.ev.mono (fun b _ => ⟨rfl, fun _ h => h⟩) (fun j => by have := Turn.keeps (w := w) (g := g) (ρ := ρ) (.cell id j); rwa [t.cell] at this)
  inj b b' id h1 h2 := by
    simp only [Gh.map, Option.map_eq_some_iff] at h1 h2
    obtain ⟨l1, e1, f1⟩ := h1
    obtain ⟨l2, e2, f2⟩ := h2
    rw [t.back _ _ f1] at e1
    rw [t.back _ _ f2] at e2
    exact hH.inj b b' id e1 e2
  lt b l h1 := by
    simp only [Gh.map, Option.map_eq_some_iff] at h1
    obtain ⟨l1, e1, _⟩ := h1
    exact hH.lt b l1 e1
  bd b id h1 := by
    simp only [Gh.map, Option.map_eq_some_iff] at h1
    obtain ⟨l1, e1, f1⟩ := h1
    rw [t.back _ _ f1] at e1
    exact hH.bd b id e1
  stlt := hH.stlt
  rsv b id h1 := by
    simp only [Gh.map, Option.map_eq_some_iff] at h1
    obtain ⟨l1, e1, f1⟩ := h1
    rw [t.back _ _ f1] at e1
    exact hH.rsv b id e1
  rlt := hH.rlt

theorem Turn.fr (t : Turn ρ) {fr : List (Nat × AV)} {ob ob' : List (Nat × Nat)} {tmps : Array Value} (hF : FR w g fr ob tmps)
    (h : ∀ t p c, (getM t ob').testBit p = true → (getM t ob).testBit p = true ∧ ρ (.tmp t p c) = .tmp t p c) : FR w (g.map ρ) fr ob' tmps :=
  hF.mono t.ev.mono fun t p c hb => ⟨(h t p c hb).1, by have := Turn.keeps (w := w) (g := g) (ρ := ρ) (.tmp t p c); rwa [(h t p c hb).2] at this⟩
theorem Turn.rep (t : Turn ρ) {wh wh' : Wh} {x : AV} {v : Value} (hr : Rep w g wh x v) (h : ∀ p c l', wh' p c = some l' → ∃ l, wh p c = some l ∧ ρ l = l') : Rep w (g.map ρ) wh' x v :=
  hr.mono t.ev.mono fun p c l' hl => by
    obtain ⟨l, h1, rfl⟩ := h p c l' hl
    exact ⟨l, h1, Turn.keeps l⟩
end

/-- What is in hand, handed on. -/
def giveTo (t : Nat) (f : Nat → Nat → Loc) : Loc → Loc
  | .tmp t' p c => if t' = t then f p c else .tmp t' p c
  | l => l
theorem giveTo_turn (t : Nat) (f : Nat → Nat → Loc) (hf : ∀ p c id, f p c ≠ .obj id) : Turn (giveTo t f) where
  obj _ := rfl
  cell _ _ := rfl
  back l id h := by
    cases l <;> simp [giveTo] at h
    · split at h
      · exact absurd h (hf _ _ _)
      · cases h
    · exact congrArg _ h

theorem getM_obOff {A : FAnn} {r i t : Nat} {ob : List (Nat × Nat)} {x : Operand} (t' : Nat) (h : x = .tmp t ∧ A.takes r i t = true) : getM t' (obOff A r i ob x) = if t' = t then 0 else getM t' ob := by
  obtain ⟨rfl, ht⟩ := h
  simp only [obOff, ht, cond_true, getM]
  by_cases he : t' = t
  · subst he; simp
  · simp [beq_no (Ne.symm he), he]

section
variable {P : Program} {w : World} {g : Gh} {h : H} {fr : List (Nat × AV)} {ob : List (Nat × Nat)} {a : Act}

/-- An operand, taken with its room, given to another place. -/
theorem take_give (hH : HR w g h) (hF : FR w g fr ob a.tmps) {A : FAnn} {r i : Nat} (x : Operand) (f : Nat → Nat → Loc) (hf : ∀ p c id, f p c ≠ .obj id) :
    ∃ g', Ev w g w g' ∧ HR w g' h ∧ FR w g' fr (obOff A r i ob x) a.tmps ∧ Rep w g' (fun p c => if (mOf A r i ob x).testBit p then some (f p c) else none) (vOf fr x) (a.eval x) := by
  by_cases hx : ∃ t, x = .tmp t ∧ A.takes r i t = true
  · obtain ⟨t, ht⟩ := hx
    have tn := giveTo_turn t f hf
    refine ⟨g.map (giveTo t f), tn.ev, tn.hr hH, tn.fr hF ?_, ?_⟩
    · intro t' p c hb
      rw [getM_obOff t' ht] at hb
      split at hb
      · simp at hb
      · rename_i hne
        exact ⟨hb, by simp [giveTo, hne]⟩
    · obtain ⟨rfl, htk⟩ := ht
      refine tn.rep (hF t) ?_
      intro p c l' hl
      simp only [mOf, htk, cond_true] at hl
      split at hl
      · rename_i hb
        cases hl
        exact ⟨.tmp t p c, by simp [whT, hb], by simp [giveTo]⟩
      · cases hl
  · have e1 : obOff A r i ob x = ob := by
      cases x with
      | tmp t => simp only [obOff]; cases ht : A.takes r i t with
        | true => exact absurd ⟨t, rfl, ht⟩ hx
        | false => rfl
      | _ => rfl
    rw [e1]
    refine ⟨g, .refl w g, hH, hF, ?_⟩
    cases x with
    | tmp t =>
      have : A.takes r i t = false := by cases ht : A.takes r i t with
        | true => exact absurd ⟨t, rfl, ht⟩ hx
        | false => rfl
      simp only [mOf, this, cond_false, Nat.zero_testBit, Bool.false_eq_true, if_false]
      exact hF.eval (a := a) (.tmp t)
    | const v => exact ofVal_rep v
    | global g => exact .undef
    | func f => exact .func rfl rfl (by simp) (by simp)

/-- What an operation leaves behind. -/
def OpOk (P : Program) (a : Act) (o : Oper) (fr : List (Nat × AV)) (ob' : List (Nat × Nat)) (m : Nat) (v : AV) (h' : H) (w : World) (g : Gh) : Prop :=
  ∃ n u w' g', (execOp a.eval o).run P w = .ok n w' ∧ (n = .value u ∨ n = .skip ∧ u = undef) ∧ Ev w g w' g' ∧ HR w' g' h' ∧ FR w' g' fr ob' a.tmps ∧ Rep w' g' (whD m o.dst) v u

theorem OpOk.read {o : Oper} {v : AV} {u : Value} (hH : HR w g h) (hF : FR w g fr ob a.tmps) (h1 : (execOp a.eval o).run P w = .ok (.value u) w) (h2 : Rep w g wh0 v u) : OpOk P a o fr ob 0 v h w g := by
  refine ⟨_, u, w, g, h1, .inl rfl, .refl w g, hH, hF, h2.mono (.refl w g) ?_⟩
  intro p c l' hl
  unfold whD at hl
  split at hl <;> simp at hl

theorem move_ok (hH : HR w g h) (hF : FR w g fr ob a.tmps) {A : FAnn} {r i : Nat} {o : Oper} {x : Operand} (ho : o.op = .move x ∨ o.op = .assign x) :
    OpOk P a o fr (obOff A r i ob x) (mOf A r i ob x) (vOf fr x) h w g := by
  obtain ⟨g', e, h1, h2, h3⟩ := take_give hH hF (A := A) (r := r) (i := i) x (fun p c => match o.dst with | some d => .tmp d p c | none => .res p c) (by intro p c id; cases o.dst <;> simp)
  refine ⟨_, a.eval x, w, g', by rcases ho with ho | ho <;> simp [execOp, ho], .inl rfl, e, h1, h2, ?_⟩
  refine h3.mono (.refl w g') ?_
  intro p c l' hl
  unfold whD at hl
  cases hd : o.dst with
  | none => rw [hd] at hl; cases hl
  | some d =>
    rw [hd] at hl
    simp only at hl
    split at hl
    · rename_i hb
      cases hl
      exact ⟨_, by simp [hb], fun b hb => ⟨hb, rfl, fun _ h => h⟩⟩
    · cases hl


theorem arr_rep {w' : World} {g' : Gh} {n : Nat} {cells : List AV} {cs : Array Value} {ty : TypeId} {b : Nat} (ho : g'.own b = some (.obj n)) (hb : w'.heap[b]? = some (.cells cs ty)) (hs : cs.size = cells.length)
    (hc : ∀ (j : Nat) c v, cells[j]? = some c → cs[j]? = some v → c.one = true ∧ Rep w' g' (fun _ _ => some (.cell n j)) c v) (hst : ∀ k, ¬ g'.st b k) : ObjRep w' g' n (.arr cells false) :=
  .arr ho hb hs hc fun _ => ⟨hst, fun k _ => by simp [World.frozen?, hb]⟩

theorem new_mk (w : World) (g : Gh) (o : Obj) (x : Option Loc) (S : Nat → Prop) : New w g o x S (w.alloc o) (g.new w.heap.size x S) := ⟨rfl, rfl, rfl, rfl, rfl, rfl⟩
theorem new_mk_drew (w : World) (g : Gh) (o : Obj) (x : Option Loc) (S : Nat → Prop) : New w g o x S (w.drew.alloc o) (g.new w.heap.size x S) := ⟨rfl, rfl, rfl, rfl, rfl, rfl⟩

theorem ptr_ok {g' : Gh} {n b : Nat} {wh : Wh} {w' : World} (h : g'.own b = some (.obj n)) : Rep w' g' wh (.ptr n 0) (.pointer (some ⟨b, 0, none⟩)) := .ptr h

theorem alloc_ok (hH : HR w g h) (hF : FR w g fr ob a.tmps) {o : Oper} {t : TypeId} (ho : o.op = .alloc t) {p : AV × H} (he : newOp P h o.op = some p) : OpOk P a o fr ob 0 p.1 p.2 w g := by
  rw [ho] at he
  simp only [newOp] at he
  split at he
  · rename_i z hz
    split at he
    · rename_i hone
      cases he
      obtain ⟨zv, hzr, _, hz0, _⟩ := zero_sound (P := P) (w := w) (g := g) (wh := fun _ c => some (.cell h.length c)) hz
      have n := new_mk w g (.cells zv.cells t) (some (.obj h.length)) (fun _ => False)
      obtain ⟨c1, c2⟩ := hz0.cells hone
      refine ⟨_, _, _, _, by simp [execOp, ho, Instr.alloc, hzr, newVar, newRow]; rfl, .inl rfl, n.ev hH, n.hr_obj rfl hH ?_, n.fr hH hF, ptr_ok (by rw [n.own]; simp)⟩
      refine arr_rep (b := w.heap.size) (by rw [n.own]; simp) n.at_new c1 (fun j c v hj hv => ⟨(c2 j c v hj hv).1, n.rep hH (c2 j c v hj hv).2⟩) (fun k hk => by rw [n.st] at hk; simp at hk)
    · cases he
  · cases he

theorem makeMap_ok (hH : HR w g h) (hF : FR w g fr ob a.tmps) {o : Oper} {t : TypeId} (ho : o.op = .makeMap t none) : OpOk P a o fr ob 0 (.map h.length) (h ++ [.map []]) w g := by
  have n := new_mk w g (.map #[] 0) (some (.obj h.length)) (fun _ => False)
  refine ⟨_, _, _, _, by simp [execOp, ho, Instr.makeMap]; rfl, .inl rfl, n.ev hH, n.hr_obj rfl hH ?_, n.fr hH hF, .map (by rw [n.own]; simp)⟩
  exact .map (b := w.heap.size) (by rw [n.own]; simp) n.at_new rfl (fun k hk => by rw [n.st] at hk; simp at hk) (by simp)


theorem hold_cells {m : Nat} {f : Nat → Nat → Loc} {v : AV} {u : Value} (hr : Rep w g (fun p c => if m.testBit p then some (f p c) else none) v u) (h1 : (hold m v).cells.all AV.one = true) :
    u.cells.size = (hold m v).cells.length ∧ ∀ (j : Nat) c x, (hold m v).cells[j]? = some c → u.cells[j]? = some x → c.one = true ∧ Rep w g (fun _ _ => some (f 0 j)) c x := by
  unfold hold at h1 ⊢
  cases hb : m.testBit 0 with
  | true =>
    rw [hb] at h1
    simp only [cond_true] at h1 ⊢
    obtain ⟨c1, c2⟩ := hr.cells h1
    exact ⟨c1, fun j c x hj hx => ⟨(c2 j c x hj hx).1, by simpa [hb] using (c2 j c x hj hx).2⟩⟩
  | false =>
    rw [hb] at h1
    simp only [cond_false] at h1 ⊢
    obtain ⟨c1, c2⟩ := (hr.copy (wh' := fun _ j => some (f 0 j))).cells h1
    exact ⟨c1, fun j c x hj hx => c2 j c x hj hx⟩

theorem box_ok (hH : HR w g h) (hF : FR w g fr ob a.tmps) {A : FAnn} {r i : Nat} {o : Oper} {t : TypeId} {x : Operand} (ho : o.op = .box t x) {p : AV × H} (he : bx h (hold (mOf A r i ob x) (vOf fr x)) = some p) :
    OpOk P a o fr (obOff A r i ob x) 0 p.1 p.2 w g := by
  unfold bx at he
  split at he
  · rename_i hone
    cases he
    obtain ⟨g1, e1, hH1, hF1, hr⟩ := take_give hH hF (A := A) (r := r) (i := i) x (fun _ c => .cell h.length c) (by intros; simp)
    obtain ⟨c1, c2⟩ := hold_cells hr hone
    have n := new_mk w g1 (.cells (a.eval x).cells t) (some (.obj h.length)) (fun _ => False)
    refine ⟨_, _, _, _, by simp [execOp, ho, Instr.box, newVar, newRow]; rfl, .inl rfl, e1.trans (n.ev hH1), n.hr_obj rfl hH1 ?_, n.fr hH1 hF1, ptr_ok (by rw [n.own]; simp)⟩
    exact arr_rep (b := w.heap.size) (by rw [n.own]; simp) n.at_new c1 (fun j c v hj hv => ⟨(c2 j c v hj hv).1, n.rep hH1 (c2 j c v hj hv).2⟩) (fun k hk => by rw [n.st] at hk; simp at hk)
  · cases he

theorem range_ok (hH : HR w g h) (hF : FR w g fr ob a.tmps) {o : Oper} {t : TypeId} {x : Operand} (ho : o.op = .range t x) (hu : P.underlying t = some .string) {p : AV × H} (he : rgStr h (vOf fr x) = some p) :
    OpOk P a o fr ob 0 p.1 p.2 w g := by
  have hx := hF.eval (a := a) x
  unfold rgStr at he
  split at he
  · rename_i s hs
    rw [hs] at hx
    generalize hv : a.eval x = v at hx
    cases hx
    cases he
    have n := new_mk w g (.stringIter ⟨s.toArray⟩ 0) (some (.obj h.length)) (fun _ => False)
    refine ⟨_, _, _, _, by simp [execOp, ho, Instr.range, run_underlying hu, hv]; rfl, .inl rfl, n.ev hH, n.hr_obj rfl hH ?_, n.fr hH hF, ptr_ok (by rw [n.own]; simp)⟩
    exact .siter (b := w.heap.size) (by rw [n.own]; simp) n.at_new (fun k hk => by rw [n.st] at hk; simp at hk)
  · cases he

end
section
variable {P : Program} {w : World} {g : Gh}
/-- A block that is an object's alone is written. -/
structure Wrote (w : World) (g : Gh) (id : Nat) (w' : World) : Prop where
  size : w'.heap.size = w.heap.size
  other : ∀ b, g.own b ≠ some (.obj id) → w'.heap[b]? = w.heap[b]?
  os : (w'.os, w'.tape) = (w.os, w.tape)
  out : w'.output = w.output

theorem Wrote.ev {id : Nat} {w' : World} (n : Wrote w g id w') (hst : ∀ b, g.own b = some (.obj id) → ∀ k, ¬ g.st b k) : Ev w g w' g where
  size := by rw [n.size]; exact Nat.le_refl _
  st b k hs := by
    refine ⟨hs, ?_⟩
    have : g.own b ≠ some (.obj id) := fun ho => hst b ho k hs
    simp [World.cell?, n.other b this]
  obj b id h := h
  old b _ ho := ⟨ho, n.other b (by rw [ho]; simp), fun _ h => h⟩
  os := n.os
  out := n.out
  rsv _ h := h
theorem Wrote.keeps {id : Nat} {w' : World} (n : Wrote w g id w') (l : Loc) (hl : l ≠ .obj id) : Keeps w g w' g l l := fun b ho => ⟨ho, n.other b (by rw [ho]; simpa using hl), fun _ h => h⟩
theorem Wrote.moves {id : Nat} {w' : World} (n : Wrote w g id w') (wh : Wh) (hwh : ∀ p c, wh p c ≠ some (.obj id)) : Moves w g w' g wh wh := fun p c l hl => ⟨l, hl, n.keeps l (fun e => hwh p c (by rw [hl, e]))⟩
theorem Wrote.fr {id : Nat} {w' : World} (n : Wrote w g id w') (hst : ∀ b, g.own b = some (.obj id) → ∀ k, ¬ g.st b k) {fr : List (Nat × AV)} {ob : List (Nat × Nat)} {tmps : Array Value} (hF : FR w g fr ob tmps) : FR w' g fr ob tmps :=
  hF.mono (n.ev hst).mono fun t p c h => ⟨h, n.keeps _ (by simp)⟩
theorem Wrote.hr {id : Nat} {w' : World} (n : Wrote w g id w') (hst : ∀ b, g.own b = some (.obj id) → ∀ k, ¬ g.st b k) {h : H} (hH : HR w g h) {o : AObj} (ho : ObjRep w' g id o) (hid : id < h.length) : HR w' g (h.set id o) where
  obj id' o' hid' ht := by
    by_cases he : id' = id
    · subst he
      rw [List.getElem?_set_self (by omega)] at hid'
      cases hid'
      exact ho
    · rw [List.getElem?_set_ne (Ne.symm he)] at hid'
      exact (hH.obj id' o' hid' ht).mono (n.ev hst).mono (fun b hb => ⟨n.other b (by rw [hb]; simp; exact he), fun _ h => h⟩) (fun j => n.keeps _ (by simp))
  inj := hH.inj
  lt b l hl := by rw [n.size]; exact hH.lt b l hl
  bd b id hb := by have := hH.bd b id hb; simpa using this
  stlt b k hs := by rw [n.size]; exact hH.stlt b k hs
  rsv := hH.rsv
  rlt id h := by have := hH.rlt id h; simpa using this


theorem setCell_at {b o : Nat} {cs : Array Value} {ty : TypeId} {f : Nat × Nat} (h : w.heap[b]? = some (.cells cs ty f)) (v : Value) :
    (w.setCell ⟨b, o, none⟩ v).heap[b]? = some (.cells (cs.setIfInBounds o v) ty f) ∧ (∀ b', b' ≠ b → (w.setCell ⟨b, o, none⟩ v).heap[b']? = w.heap[b']?) ∧ (w.setCell ⟨b, o, none⟩ v).heap.size = w.heap.size := by
  unfold World.setCell
  refine ⟨?_, fun b' hb' => ?_, by simp⟩
  · simp [Array.getElem?_modify, h]
  · simp [Array.getElem?_modify, Ne.symm hb']

theorem setCells_at : ∀ (vs : List Value) (w : World) (b o : Nat) (cs : Array Value) (ty : TypeId) (f : Nat × Nat), w.heap[b]? = some (.cells cs ty f) → o + vs.length ≤ cs.size →
    (∃ cs', (w.setCells b o vs).heap[b]? = some (.cells cs' ty f) ∧ cs'.size = cs.size ∧ ∀ j, cs'[j]? = if o ≤ j ∧ j < o + vs.length then vs[j - o]? else cs[j]?) ∧
    (∀ b', b' ≠ b → (w.setCells b o vs).heap[b']? = w.heap[b']?) ∧ (w.setCells b o vs).heap.size = w.heap.size
  | [], w, b, o, cs, ty, f, h, _ => by
    refine ⟨⟨cs, h, rfl, fun j => ?_⟩, fun _ _ => rfl, rfl⟩
    rw [if_neg (by simp)]
  | v :: vs, w, b, o, cs, ty, f, h, hl => by
    obtain ⟨h1, h2, h3⟩ := setCell_at (o := o) h v
    simp only [List.length_cons] at hl
    obtain ⟨⟨cs', e1, e2, e3⟩, e4, e5⟩ := setCells_at vs (w.setCell ⟨b, o, none⟩ v) b (o + 1) _ ty f h1 (by simp; omega)
    refine ⟨⟨cs', e1, by rw [e2]; simp, fun j => ?_⟩, fun b' hb' => (e4 b' hb').trans (h2 b' hb'), e5.trans h3⟩
    rw [e3 j]
    simp only [List.length_cons]
    by_cases hj : j = o
    · subst hj
      rw [if_neg (by omega), if_pos (by omega)]
      simp [show j < cs.size by omega]
    · by_cases hr : o + 1 ≤ j ∧ j < o + 1 + vs.length
      · rw [if_pos hr, if_pos (by omega), show j - o = (j - (o + 1)) + 1 by omega]; simp
      · rw [if_neg hr, if_neg (by omega)]
        simp [Array.getElem?_setIfInBounds, Ne.symm hj]
theorem setCells_os (w : World) (b o : Nat) (vs : List Value) : ((w.setCells b o vs).os, (w.setCells b o vs).tape) = (w.os, w.tape) ∧ (w.setCells b o vs).output = w.output := by
  induction vs generalizing w o with
  | nil => exact ⟨rfl, rfl⟩
  | cons v vs ih => exact ih (w.setCell ⟨b, o, none⟩ v) (o + 1)

theorem splice_get {cells : List AV} {off : Nat} {v : AV} {r : List AV} (he : splice cells off v = some r) (hone : v.cells.all AV.one = true) :
    off + v.cells.length ≤ cells.length ∧ r.length = cells.length ∧ ∀ j, r[j]? = if off ≤ j ∧ j < off + v.cells.length then v.cells[j - off]? else cells[j]? := by
  have key : ∀ vs : List AV, off + vs.length ≤ cells.length → (cells.take off ++ vs ++ cells.drop (off + vs.length)).length = cells.length ∧
      ∀ j, (cells.take off ++ vs ++ cells.drop (off + vs.length))[j]? = if off ≤ j ∧ j < off + vs.length then vs[j - off]? else cells[j]? := by
    intro vs hl
    refine ⟨by simp; omega, fun j => ?_⟩
    by_cases h1 : j < off
    · rw [if_neg (by omega), List.append_assoc, List.getElem?_append_left (by simp; omega), List.getElem?_take, if_pos h1]
    · by_cases h2 : j < off + vs.length
      · rw [if_pos (by omega), List.append_assoc, List.getElem?_append_right (by simp; omega), List.getElem?_append_left (by simp; omega)]
        simp [show min off cells.length = off by omega]
      · rw [if_neg (by omega), List.getElem?_append_right (by simp; omega), List.getElem?_drop]
        congr 1
        simp; omega
  have single : ∀ x : AV, off < cells.length → (cells.set off x).length = cells.length ∧ ∀ j, (cells.set off x)[j]? = if off ≤ j ∧ j < off + 1 then [x][j - off]? else cells[j]? := by
    intro x hl
    refine ⟨by simp, fun j => ?_⟩
    by_cases h1 : j = off
    · subst h1; rw [if_pos (by omega)]; simp [hl]
    · rw [if_neg (by omega), List.getElem?_set_ne (Ne.symm h1)]
  unfold splice at he
  split at he
  · rename_i vs
    split at he
    · rename_i hl
      cases he
      exact ⟨hl, key vs hl⟩
    · cases he
  · rename_i hne
    split at he
    · rename_i hl
      cases he
      have hc : v.cells = [v] := by
        cases v <;> first | rfl | exact absurd rfl (hne _)
      rw [hc]
      exact ⟨hl, single v hl⟩
    · cases he

/-- A store into an object. -/
theorem stN_ok {h : H} (hH : HR w g h) {n : Nat} {x v : AV} {wh : Wh} {ux uv : Value} (hx : Rep w g wh x ux) {p : AV × H} (he : stN n h x v = some p)
    (hv : v.cells.all AV.one = true → uv.cells.size = v.cells.length ∧ ∀ id off, x = .ptr id off → ∀ (j : Nat) c y, v.cells[j]? = some c → uv.cells[j]? = some y → c.one = true ∧ Rep w g (fun _ _ => some (.cell id (off + j))) c y)
    {t : TypeId} (hn : P.cellsOf t = n) (hi : (P.info? t).isSome) :
    ∃ id w', (Instr.storeAt t ux uv).run P w = .ok () w' ∧ p.1 = .undef ∧ Wrote w g id w' ∧ (∀ b, g.own b = some (.obj id) → ∀ k, ¬ g.st b k) ∧ HR w' g p.2 := by
  unfold stN at he
  split at he
  · rename_i id off
    split at he
    · rename_i cells hid
      split at he
      · rename_i hc
        simp only [Option.map_eq_some_iff] at he
        obtain ⟨r, hr, rfl⟩ := he
        obtain ⟨hv1, hv2⟩ := hv hc.2
        obtain ⟨s1, s2, s3⟩ := splice_get hr hc.2
        generalize hux : ux = uxx at hx
        cases hx with
        | @ptr _ _ _ b ho =>
          have hob := hH.obj id _ hid ⟨_, ho⟩
          cases hob with
          | @arr _ _ b' cs ty f ho' hb hs hcells hro =>
            obtain rfl := hH.inj _ _ _ ho ho'
            obtain ⟨hst, hfz⟩ := hro rfl
            have hlen : uv.cells.toList.length = v.cells.length := by simpa using hv1
            have hrun := run_storeCells_cells (P := P) b off uv.cells.toList 0 w (fun j hj => by
                have : off + j < cs.size := by omega
                simp [World.cell?, hb, this]) (fun j hj => hfz _ (by omega)) (fun y hy => by
                obtain ⟨j, hj⟩ := List.getElem?_of_mem hy
                have hjl : j < v.cells.length := by have := (List.getElem?_eq_some_iff.1 hj).1; omega
                have h1 := hv2 id off rfl j v.cells[j] y (by simp [hjl]) (by simpa using hj)
                exact one_rep h1.2 h1.1)
            obtain ⟨⟨cs', e1, e2, e3⟩, e4, e5⟩ := setCells_at uv.cells.toList w b off cs ty f hb (by omega)
            obtain ⟨o1, o2⟩ := setCells_os w b off uv.cells.toList
            have wr : Wrote w g id (w.setCells b off uv.cells.toList) := ⟨e5, fun b' hb' => e4 b' (fun h => hb' (by rw [h]; exact ho)), o1, o2⟩
            have hst' : ∀ b', g.own b' = some (.obj id) → ∀ k, ¬ g.st b' k := fun b' hb' => by rw [hH.inj _ _ _ hb' ho]; exact hst
            refine ⟨id, w.setCells b off uv.cells.toList, ?_, rfl, wr, hst', wr.hr hst' hH ?_ (hH.bd b id ho)⟩
            · have : uv.cells.size = P.cellsOf t := by omega
              simp only [Nat.add_zero] at hrun
              simp [Instr.storeAt, Instr.sureAddr, storeVar, run_sizeOf' hi, this, hrun]
            · refine .arr ho e1 (by omega) (fun j c y hj hy => ?_) (fun _ => ⟨hst, fun k hk => ?_⟩)
              · rw [s3 j] at hj
                rw [e3 j] at hy
                by_cases hin : off ≤ j ∧ j < off + v.cells.length
                · rw [if_pos hin] at hj
                  rw [if_pos (by omega)] at hy
                  have h1 := hv2 id off rfl (j - off) c y hj (by simpa using hy)
                  refine ⟨h1.1, ?_⟩
                  have h2 := h1.2.mono (wr.ev hst').mono (wr.moves _ (by intros; simp))
                  rwa [show off + (j - off) = j by omega] at h2
                · rw [if_neg hin] at hj
                  rw [if_neg (by omega)] at hy
                  obtain ⟨h1, h2⟩ := hcells j c y hj hy
                  exact ⟨h1, h2.mono (wr.ev hst').mono (wr.moves _ (by intros; simp))⟩
              · rw [World.frozen?_setCells]
                exact hfz k (by omega)
      · cases he
    · cases he
  · cases he

end
end Go.Ve

/- VE: stores, maps, slices made and appended to. -/
namespace Go.Ve
open Go

section
variable {P : Program} {w : World} {g : Gh} {h : H} {fr : List (Nat × AV)} {ob : List (Nat × Nat)} {a : Act}

theorem hold_all {m : Nat} {f : Nat → Nat → Loc} {v : AV} {u : Value} (hr : Rep w g (fun p c => if m.testBit p then some (f p c) else none) v u) : Rep w g wh0 (hold m v) u := by
  unfold hold
  cases m.testBit 0 with
  | true => exact hr.weak
  | false => exact hr.copy

theorem store_ok (hH : HR w g h) (hF : FR w g fr ob a.tmps) {A : FAnn} {r i : Nat} {o : Oper} {t : TypeId} {y x : Operand} (ho : o.op = .store t y x) {p : AV × H} (he : storeTo P t h (vOf fr y) (hold (mOf A r i ob x) (vOf fr x)) = some p) :
    OpOk P a o fr (obOff A r i ob x) 0 p.1 p.2 w g := by
  unfold storeTo at he
  split at he
  · rename_i hi
    have hptr : ∃ id off, vOf fr y = .ptr id off := by
      unfold stN at he
      split at he
      · exact ⟨_, _, by assumption⟩
      · cases he
    obtain ⟨id, off, hy⟩ := hptr
    obtain ⟨g1, e1, hH1, hF1, hr⟩ := take_give hH hF (A := A) (r := r) (i := i) x (fun _ c => .cell id (off + c)) (by intros; simp)
    have hy1 := hF1.eval (a := a) y
    obtain ⟨id', w', h1, h2, wr, hst, h3⟩ := stN_ok (P := P) hH1 hy1 he (uv := a.eval x) (fun hone => by
      obtain ⟨c1, c2⟩ := hold_cells hr hone
      refine ⟨c1, fun id2 off2 hx2 j c z hj hz => ?_⟩
      rw [hy] at hx2
      cases hx2
      exact c2 j c z hj hz) rfl hi
    refine ⟨_, _, w', g1, by simp [execOp, ho, h1], .inr ⟨rfl, rfl⟩, e1.trans (wr.ev hst), h3, wr.fr hst hF1, by rw [h2]; exact .undef⟩
  · cases he

theorem next_ok (hH : HR w g h) (hF : FR w g fr ob a.tmps) {o : Oper} {y : Operand} {str : Bool} (ho : o.op = .next y str) {p : AV × H} (he : next h (vOf fr y) str = some p) : OpOk P a o fr ob 0 p.1 p.2 w g := by
  have hy := hF.eval (a := a) y
  unfold next at he
  split at he
  · rename_i id hvy
    split at he
    · rename_i s pos hid
      rw [hvy] at hy
      generalize hu : a.eval y = u at hy
      cases hy with
      | @ptr _ _ _ b ho' =>
        cases hH.obj id _ hid ⟨_, ho'⟩ with
        | @siter _ _ b' ho2 hb hst =>
          obtain rfl := hH.inj _ _ _ ho' ho2
          have hst' : ∀ b', g.own b' = some (.obj id) → ∀ k, ¬ g.st b' k := fun b' hb' => by rw [hH.inj _ _ _ hb' ho']; exact hst
          split at he
          · rename_i hlt
            cases he
            have hlt' : pos < (⟨s.toArray⟩ : ByteArray).size := by rw [str_size]; exact hlt
            let w' : World := { w with heap := w.heap.setIfInBounds b (.stringIter ⟨s.toArray⟩ (pos + (Utf8.decode ⟨s.toArray⟩ pos).2)) }
            have wr : Wrote w g id w' := ⟨by simp [w'], fun b' hb' => by
              have : b' ≠ b := fun h => hb' (by rw [h]; exact ho')
              simp [w', Ne.symm this], rfl, rfl⟩
            have hbl := hH.lt b _ ho'
            have hrun : (execOp a.eval o).run P w = .ok (.value (.tuple #[.bool true, .int .i64 pos, .int .i32 (Utf8.decode ⟨s.toArray⟩ pos).1])) w' := by
              simp [execOp, ho, hu, Instr.next, getObj, setObj, Sem.run, hb, hlt', goInt, w']
            refine ⟨_, _, w', g, hrun, .inl rfl, wr.ev hst', wr.hr hst' hH (.siter ho' (by simp [w', hbl]) hst) (hH.bd b id ho'), wr.fr hst' hF, ?_⟩
            refine .tuple rfl fun i x v hx hv => ?_
            match i with
            | 0 => simp at hx hv; subst hx hv; exact .bool
            | 1 => simp at hx hv; subst hx hv; exact .int
            | 2 => simp at hx hv; subst hx hv; exact .int
            | i + 3 => simp at hx
          · rename_i hlt
            cases he
            have hlt' : ¬ pos < (⟨s.toArray⟩ : ByteArray).size := by rw [str_size]; exact hlt
            have hrun : (execOp a.eval o).run P w = .ok (.value (.tuple #[.bool false])) w := by
              simp [execOp, ho, hu, Instr.next, getObj, Sem.run, hb, hlt']
            refine ⟨_, _, w, g, hrun, .inl rfl, .refl w g, hH, hF, ?_⟩
            refine .tuple rfl fun i x v hx hv => ?_
            match i with
            | 0 => simp at hx hv; subst hx hv; exact .bool
            | i + 1 => simp at hx
    · cases he
  · cases he


theorem strict_eq {α : Type} (m : Nat) (k : Nat → α) : strict m k = k m := by cases m <;> rfl

def pullTo (t j : Nat) (f : Nat → Loc) : Loc → Loc
  | .tmp t' p c => if t' = t ∧ p = j then f c else .tmp t' p c
  | l => l
theorem pullTo_turn (t j : Nat) (f : Nat → Loc) (hf : ∀ c id, f c ≠ .obj id) : Turn (pullTo t j f) where
  obj _ := rfl
  cell _ _ := rfl
  back l id h := by
    cases l <;> simp [pullTo] at h
    · split at h
      · exact absurd h (hf _ _)
      · cases h
    · exact congrArg _ h

theorem extract_ok (hH : HR w g h) (hF : FR w g fr ob a.tmps) {A : FAnn} {r i : Nat} {o : Oper} {x : Operand} {j : Nat} (ho : o.op = .extract x j) {v : AV} (he : exTuple j (vOf fr x) = some v) :
    OpOk P a o fr (offOf A r i ob o.op) (maskOf A r i ob o.op) v h w g := by
  by_cases hx : ∃ t, x = .tmp t
  · obtain ⟨t, rfl⟩ := hx
    obtain ⟨u, h1, h2⟩ := extract_sound (P := P) (hF t) he
    have tn := pullTo_turn t j (fun c => match o.dst with | some d => .tmp d 0 c | none => .res 0 c) (by intro c id; cases o.dst <;> simp)
    refine ⟨_, u, w, _, by simp only [execOp, ho, Act.eval, Sem.run_bind]; rw [h1]; rfl, .inl rfl, tn.ev, tn.hr hH, tn.fr hF ?_, tn.rep h2 ?_⟩
    · intro t' p c hb
      rw [ho] at hb
      simp only [offOf, strict_eq, getM] at hb
      by_cases ht : t' = t
      · subst ht
        simp only [Nat.beq_refl, cond_true] at hb
        have key : (getM t' ob).testBit p = true ∧ p ≠ j := by
          cases hm : (getM t' ob).testBit j with
          | false =>
            rw [hm] at hb
            simp only [cond_false] at hb
            exact ⟨hb, fun e => by subst e; rw [hm] at hb; cases hb⟩
          | true =>
            rw [hm] at hb
            simp only [cond_true] at hb
            have hb' : (getM t' ob ^^^ (1 <<< j)).testBit p = true := hb
            rw [Nat.testBit_xor, Nat.one_shiftLeft, Nat.testBit_two_pow] at hb'
            by_cases e : j = p
            · subst e; rw [hm] at hb'; simp at hb'
            · exact ⟨by simpa [e] using hb', Ne.symm e⟩
        refine ⟨key.1, ?_⟩
        have hpj := key.2
        simp [pullTo, hpj]
      · rw [beq_no (Ne.symm ht)] at hb
        exact ⟨hb, by simp [pullTo, ht]⟩
    · intro p c l' hl
      rw [ho] at hl
      simp only [maskOf] at hl
      unfold whD at hl
      cases hd : o.dst with
      | none => rw [hd] at hl; cases hl
      | some d =>
        rw [hd] at hl
        simp only at hl
        cases hb : (getM t ob).testBit j with
        | false => rw [hb] at hl; simp at hl
        | true =>
          rw [hb] at hl
          simp only [cond_true] at hl
          split at hl
          · rename_i hp
            have hp0 : p = 0 := by
              cases p with
              | zero => rfl
              | succ p => simp [Nat.testBit_succ] at hp
            subst hp0
            cases hl
            exact ⟨.tmp t j c, by simp [whT, hb], by simp [pullTo]⟩
          · cases hl
  · have hxw := hF.eval (a := a) x
    obtain ⟨u, h1, h2⟩ := extract_sound (P := P) hxw he
    have e1 : offOf A r i ob o.op = ob := by
      rw [ho]; cases x <;> first | rfl | exact absurd ⟨_, rfl⟩ hx
    have e2 : maskOf A r i ob o.op = 0 := by
      rw [ho]; cases x <;> first | rfl | exact absurd ⟨_, rfl⟩ hx
    rw [e1, e2]
    exact .read hH hF (by simp [execOp, ho, h1]) h2.weak

theorem copy_one {x : AV} (h : x.one = true) : x.copy.cells = [x.copy] := by
  cases x with
  | list rows ow => cases ow <;> rfl
  | undef => simp [AV.one] at h
  | agg => simp [AV.one] at h
  | tuple => simp [AV.one] at h
  | _ => rfl

theorem ldTake_ok (hH : HR w g h) (hF : FR w g fr ob a.tmps) {o : Oper} {t : TypeId} {x : Operand} (ho : o.op = .load t x) (ht : isCell P t = true) {p : AV × H} (he : ldTake h (vOf fr x) = some p) :
    OpOk P a o fr ob full p.1 p.2 w g := by
  have hx := hF.eval (a := a) x
  unfold ldTake at he
  simp only [Option.bind_eq_some_iff, Option.map_eq_some_iff] at he
  obtain ⟨v, hv, q, hq, rfl⟩ := he
  unfold stN at hq
  split at hq
  · rename_i id off hxv
    split at hq
    · rename_i cells hid
      split at hq
      · rename_i hc
        simp only [Option.map_eq_some_iff] at hq
        obtain ⟨r, hr, rfl⟩ := hq
        obtain ⟨s1, s2, s3⟩ := splice_get hr hc.2
        obtain ⟨u, hu, _, _⟩ := ldCell_sound (P := P) hH hx hv ht
        rw [hxv] at hx hv
        have hcell : cells[off]? = some v := by
          simp only [ldCell, cellsAt, hid, Option.bind_some, cellAt] at hv
          exact hv
        generalize hux : a.eval x = ux at hx hu
        cases hx with
        | @ptr _ _ _ b ho' =>
          cases hH.obj id _ hid ⟨_, ho'⟩ with
          | @arr _ _ b' cs ty f ho2 hb hs hcells hro =>
            obtain rfl := hH.inj _ _ _ ho' ho2
            obtain ⟨hst, hfz⟩ := hro rfl
            have hlt : off < cs.size := by rw [hs]; exact (List.getElem?_eq_some_iff.1 hcell).1
            have hcv := hcells off v cs[off] hcell (by simp [hlt])
            have huv : u = cs[off] := by
              have hld : (Instr.loadAt t (.pointer (some ⟨b, off, none⟩))).run P w = .ok cs[off] w := by
                obtain ⟨d, _, hag⟩ := cell_und ht
                simp [Instr.loadAt, Instr.sureAddr, loadVar, hag, World.cell?, hb, hlt]
              rw [hld] at hu
              cases hu; rfl
            subst huv
            have hvone : v.copy.cells.length = 1 := hc.1
            let ρ : Loc → Loc := fun l => if l = .cell id off then (match o.dst with | some d => .tmp d 0 0 | none => .res 0 0) else l
            have keep : ∀ l, l ≠ .cell id off → Keeps w g w (g.map ρ) l l := by
              intro l hl b' hb'
              exact ⟨by simp [Gh.map, hb', ρ, hl], rfl, fun _ h => h⟩
            have ev : Ev w g w (g.map ρ) := ⟨Nat.le_refl _, fun _ _ h => ⟨h, rfl⟩, fun b' id' hb' => by simp [Gh.map, hb', ρ], fun b' _ hb' => ⟨by simp [Gh.map, hb'], rfl, fun _ h => h⟩, rfl, rfl, fun _ h => h⟩
            have back : ∀ b' id', (g.map ρ).own b' = some (.obj id') → g.own b' = some (.obj id') := by
              intro b' id' hb'
              simp only [Gh.map, Option.map_eq_some_iff] at hb'
              obtain ⟨l, hl, hρ⟩ := hb'
              simp only [ρ] at hρ
              split at hρ
              · cases hd : o.dst <;> simp [hd] at hρ
              · subst hρ; exact hl
            refine ⟨_, cs[off], w, g.map ρ, by simp [execOp, ho, hux, hu], .inl rfl, ev, ?_, hF.mono ev.mono (fun t p c hb' => ⟨hb', keep _ (by simp)⟩), ?_⟩
            · refine ⟨fun id' o' hid' ht => ?_, fun b1 b2 id' h1 h2 => hH.inj b1 b2 id' (back _ _ h1) (back _ _ h2), fun b1 l hl => ?_, fun b1 id' h1 => by have := hH.bd b1 id' (back _ _ h1); simpa using this, hH.stlt, fun b1 id' h1 => hH.rsv b1 id' (back _ _ h1), fun id' h1 => by have := hH.rlt id' h1; simpa using this⟩
              · by_cases he : id' = id
                · subst he
                  rw [List.getElem?_set_self (hH.bd b id' ho')] at hid'
                  cases hid'
                  refine .arr (ev.obj _ _ ho') hb (by omega) (fun j c y hj hy => ?_) (fun _ => ⟨hst, hfz⟩)
                  rw [s3 j] at hj
                  by_cases hjo : j = off
                  · subst hjo
                    rw [if_pos (by omega)] at hj
                    have hcc : v.copy.cells = [v.copy] := copy_one hcv.1
                    rw [hcc] at hj
                    simp at hj
                    subst hj
                    have hy' : y = cs[j] := by simp [hlt] at hy; exact hy.symm
                    subst hy'
                    refine ⟨?_, (hcv.2.mono ev.mono Moves.none).copy⟩
                    have := hc.2
                    rw [hcc] at this
                    simpa using this
                  · rw [if_neg (by omega)] at hj
                    obtain ⟨h1, h2⟩ := hcells j c y hj hy
                    refine ⟨h1, h2.mono ev.mono ?_⟩
                    intro p c l' hl
                    cases hl
                    exact ⟨_, rfl, keep _ (by simp [hjo])⟩
                · rw [List.getElem?_set_ne (Ne.symm he)] at hid'
                  exact (hH.obj id' o' hid' (by obtain ⟨b1, h1⟩ := ht; exact ⟨b1, back _ _ h1⟩)).mono ev.mono (fun _ _ => ⟨rfl, fun _ h => h⟩) (fun j => keep _ (by simp [he]))
              · simp only [Gh.map, Option.map_eq_some_iff] at hl
                obtain ⟨l1, h1, _⟩ := hl
                exact hH.lt b1 l1 h1
            · have := hcv.2.mono (wh' := fun _ _ => some (match o.dst with | some d => .tmp d 0 0 | none => .res 0 0)) ev.mono (fun p c l' hl => by
                cases hl
                exact ⟨_, rfl, fun b1 hb1 => ⟨by simp [Gh.map, hb1, ρ], rfl, fun _ h => h⟩⟩)
              have hw : ∀ {wh' : Wh}, (wh' 0 0 = none ∨ wh' 0 0 = some (match o.dst with | some d => .tmp d 0 0 | none => .res 0 0)) → Rep w (g.map ρ) wh' v cs[off] := by
                intro wh' hh
                rcases hh with hh | hh
                · exact this.weak.relabel hcv.1 (by rw [hh]; rfl)
                · exact this.relabel hcv.1 hh
              refine hw ?_
              unfold whD
              cases hd : o.dst with
              | none => exact .inl rfl
              | some d => exact .inr rfl
      · cases hq
    · cases hq
  · cases hq

end
end Go.Ve

/- VE: slices made and appended to; maps written. -/
namespace Go.Ve
open Go

section
variable {P : Program} {w : World} {g : Gh} {h : H} {fr : List (Nat × AV)} {ob : List (Nat × Nat)} {a : Act}

/-- Cells that lie row by row. -/
def RowsAt (w : World) (g : Gh) (s : Nat) (rows : List (List AV)) (vs : List Value) : Prop :=
  vs.length = rows.length * s ∧ (∀ r ∈ rows, r.length = s) ∧ ∀ (i : Nat) r (j : Nat) c u, rows[i]? = some r → r[j]? = some c → vs[i * s + j]? = some u → c.one = true ∧ Rep w g wh0 c u

theorem rows_all {s : Nat} {rows : List (List AV)} (h : rows.all (fun r => r.length == s) = true) : ∀ r ∈ rows, r.length = s := by
  intro r hr
  have := List.all_eq_true.1 h r hr
  simpa using this

theorem RowsAt.one {s : Nat} {rows : List (List AV)} {vs : List Value} (hs : 0 < s) (h : RowsAt w g s rows vs) : ∀ u ∈ vs, u.oneCell' = true := by
  intro u hu
  obtain ⟨k, hk⟩ := List.getElem?_of_mem hu
  have hkl : k < rows.length * s := by rw [← h.1]; exact (List.getElem?_eq_some_iff.1 hk).1
  have hi : k / s < rows.length := Nat.div_lt_of_lt_mul (by rw [Nat.mul_comm]; exact hkl)
  have hrl := h.2.1 rows[k / s] (by simp)
  have hj : k % s < (rows[k / s]).length := by rw [hrl]; exact Nat.mod_lt _ hs
  obtain ⟨h1, h2⟩ := h.2.2 (k / s) rows[k / s] (k % s) (rows[k / s])[k % s] u (by simp [hi]) (by simp [hj]) (by rw [Nat.mul_comm, Nat.div_add_mod]; exact hk)
  exact one_rep h2 h1


theorem chunks_get (s : Nat) : ∀ (n : Nat) (cs : List AV), (chunks s n cs).length = n ∧ ∀ i, i < n → (chunks s n cs)[i]? = some ((cs.drop (i * s)).take s)
  | 0, cs => ⟨rfl, fun i h => absurd h (Nat.not_lt_zero i)⟩
  | n + 1, cs => by
    obtain ⟨h1, h2⟩ := chunks_get s n (cs.drop s)
    refine ⟨by simp [chunks, h1], fun i hi => ?_⟩
    cases i with
    | zero => simp [chunks]
    | succ i =>
      simp only [chunks, List.getElem?_cons_succ]
      rw [h2 i (by omega), List.drop_drop, show s + i * s = (i + 1) * s by rw [Nat.add_mul]; omega]

/-- What is appended, as the machine reads it. -/
theorem rowsOf_src (hH : HR w g h) {e : TypeId} (hs : 0 < P.cellsOf e) {wh : Wh} {y : AV} {v : Value} (hy : Rep w g wh y v) {more : List (List AV)} (he : rowsOf (P.cellsOf e) (isByte P e) h y = some more) (hall : more.all (fun r => r.length == P.cellsOf e) = true)
    {tx : TypeId} (hk : (∃ e', P.underlying tx = some (.slice e')) ∨ P.underlying tx = some .string) :
    ∃ news, Src P (P.cellsOf e) tx v more.length news w ∧ RowsAt w g (P.cellsOf e) more news := by
  have hrows := rows_all hall
  have build : ∀ (F : Nat → Value), (∀ (i : Nat) r (j : Nat) c, more[i]? = some r → r[j]? = some c → c.one = true ∧ Rep w g wh0 c (F (i * P.cellsOf e + j))) →
      RowsAt w g (P.cellsOf e) more ((List.range (more.length * P.cellsOf e)).map F) := by
    intro F hF
    refine ⟨by simp, hrows, fun i r j c u hi hj hu => ?_⟩
    simp only [List.getElem?_map, Option.map_eq_some_iff] at hu
    obtain ⟨k, hk, rfl⟩ := hu
    have := (List.getElem?_eq_some_iff.1 hk).2
    simp at this
    subst this
    exact hF i r j c hi hj
  have srcS : ∀ (al : Option Addr) (c : Nat) (F : Nat → Value), (more ≠ [] → ∃ b off, al = some ⟨b, off, none⟩ ∧ ∀ k, k < more.length * P.cellsOf e → w.cell? ⟨b, off + k, none⟩ = some (F k)) →
      RowsAt w g (P.cellsOf e) more ((List.range (more.length * P.cellsOf e)).map F) →
      Src P (P.cellsOf e) tx (.slice al more.length c) more.length ((List.range (more.length * P.cellsOf e)).map F) w := by
    intro al c F hal hra
    have h1 := hra.one hs
    cases al with
    | none =>
      by_cases hne : more = []
      · subst hne
        exact ⟨hk, fun _ => rfl, by simpa using run_firstCells_none w (P.cellsOf e) 0 0 c, by simpa using run_firstCells_none w.drew (P.cellsOf e) 0 0 c, by simp, h1⟩
      · obtain ⟨b, off, h, _⟩ := hal hne; cases h
    | some ad =>
      have hcs : ∀ (j : Nat) u, ((List.range (more.length * P.cellsOf e)).map F)[j]? = some u → w.cell? (ad.add j) = some u := by
        intro j u hj
        simp only [List.getElem?_map, Option.map_eq_some_iff] at hj
        obtain ⟨k, hk', rfl⟩ := hj
        have hkk := (List.getElem?_eq_some_iff.1 hk')
        have hkl := hkk.1
        have hke := hkk.2
        simp at hkl hke
        subst hke
        have hne : more ≠ [] := by rintro rfl; simp at hkl
        obtain ⟨b, off, ha, hc⟩ := hal hne
        cases ha
        rw [Addr.add_lit]
        exact hc j hkl
      exact ⟨hk, fun _ => rfl, run_firstCells_some w (P.cellsOf e) _ ad _ c _ (by simp) hcs, run_firstCells_some w.drew (P.cellsOf e) _ ad _ c _ (by simp) (by simpa using hcs), by simp, h1⟩
  have row_mul : ∀ (i j : Nat), j < P.cellsOf e → (i * P.cellsOf e + j) / P.cellsOf e = i ∧ (i * P.cellsOf e + j) % P.cellsOf e = j := by
    intro i j hj
    rw [Nat.add_comm, Nat.add_mul_div_right _ _ hs, Nat.add_mul_mod_self_right, Nat.div_eq_of_lt hj, Nat.mod_eq_of_lt hj]
    exact ⟨by omega, rfl⟩
  have divmod : ∀ k, k < more.length * P.cellsOf e → k / P.cellsOf e < more.length ∧ k % P.cellsOf e < P.cellsOf e ∧ k / P.cellsOf e * P.cellsOf e + k % P.cellsOf e = k := by
    intro k hk
    exact ⟨Nat.div_lt_of_lt_mul (by rw [Nat.mul_comm]; exact hk), Nat.mod_lt _ hs, by rw [Nat.mul_comm]; exact Nat.div_add_mod _ _⟩
  unfold rowsOf at he
  split at he
  · rename_i rows o
    cases he
    cases hy with
    | @list _ _ _ al n c b off s f hn hc ha hss h1 h2 hr =>
      subst hn
      have hsz : more ≠ [] → s = P.cellsOf e := by
        intro hne
        cases more with
        | nil => exact absurd rfl hne
        | cons r0 rs => rw [← hss r0 (by simp), hrows r0 (by simp)]
      have hra := build (fun k => f (k / P.cellsOf e) (k % P.cellsOf e)) (fun i r j c' hi hj => by
        have hjl : j < P.cellsOf e := by rw [← hrows r (List.mem_of_getElem? hi)]; exact (List.getElem?_eq_some_iff.1 hj).1
        obtain ⟨e1, e2⟩ := row_mul i j hjl
        rw [e1, e2]
        exact ⟨(h1 i r j c' hi hj).1, h2 i r j c' hi hj⟩)
      refine ⟨_, srcS al c _ (fun hne => ⟨b, off, ha hne, fun k hk => ?_⟩) hra, hra⟩
      obtain ⟨d1, d2, d3⟩ := divmod k hk
      have hss' := hsz hne
      subst hss'
      have hi : more[k / P.cellsOf e]? = some more[k / P.cellsOf e] := by simp [d1]
      have hrl := hrows more[k / P.cellsOf e] (by simp)
      have hj : (more[k / P.cellsOf e])[k % P.cellsOf e]? = some (more[k / P.cellsOf e])[k % P.cellsOf e] := by simp [hrl, d2]
      have := (h1 _ _ _ _ hi hj).2.2
      rw [Nat.add_assoc, d3] at this
      exact this
  · rename_i id off len s'
    split at he
    · rename_i cells ro hid
      split at he
      · rename_i hc0
        cases he
        obtain ⟨rfl, hle⟩ := hc0
        obtain ⟨cl1, cl2⟩ := chunks_get (P.cellsOf e) len (cells.drop off)
        have hml : (((chunks (P.cellsOf e) len (cells.drop off)).map (·.map AV.copyCell))).length = len := by simp [cl1]
        cases hy with
        | @slc _ _ _ _ _ al c hlc hac =>
          have hcell : ∃ F : Nat → Value, (0 < len → ∃ b, al = some ⟨b, off, none⟩ ∧ ∀ k, k < len * P.cellsOf e → w.cell? ⟨b, off + k, none⟩ = some (F k)) ∧ ∀ k c', k < len * P.cellsOf e → cells[off + k]? = some c' → c'.one = true ∧ Rep w g wh0 c' (F k) := by
            by_cases hl0 : 0 < len
            · rcases hac with rfl | ⟨b, rfl, ho⟩
              · omega
              · cases hH.obj id _ hid ⟨_, ho⟩ with
                | @arr _ _ b' cs ty fz ho' hb hsz hcs hro =>
                  obtain rfl := hH.inj _ _ _ ho ho'
                  refine ⟨fun k => cs.getD (off + k) undef, fun _ => ⟨b, rfl, fun k hk => ?_⟩, fun k c' hk hc' => ?_⟩
                  · have : off + k < cs.size := by omega
                    simp [World.cell?, hb, this]
                  · have hlt : off + k < cs.size := by omega
                    obtain ⟨h1, h2⟩ := hcs (off + k) c' cs[off + k] hc' (by simp [hlt])
                    exact ⟨h1, by simpa [hlt] using h2.weak⟩
            · exact ⟨fun _ => undef, fun h => absurd h hl0, fun k _ hk => by
                have : len = 0 := by omega
                subst this; simp at hk⟩
          obtain ⟨F, hF1, hF2⟩ := hcell
          have hra := build F (fun i r j c' hi hj => by
            have hil : i < len := by have := (List.getElem?_eq_some_iff.1 hi).1; omega
            simp only [List.getElem?_map, cl2 i hil, Option.map_some, Option.some.injEq] at hi
            subst hi
            simp only [List.getElem?_map, Option.map_eq_some_iff] at hj
            obtain ⟨c0, hc0, rfl⟩ := hj
            rw [List.getElem?_take] at hc0
            split at hc0
            · rename_i hjl
              rw [List.getElem?_drop, List.getElem?_drop] at hc0
              have hlt : i * P.cellsOf e + j < len * P.cellsOf e := by
                have : (i + 1) * P.cellsOf e ≤ len * P.cellsOf e := Nat.mul_le_mul_right _ (by omega)
                rw [Nat.add_mul] at this; omega
              obtain ⟨h1, h2⟩ := hF2 (i * P.cellsOf e + j) c0 hlt (by rw [← hc0])
              refine ⟨?_, h2.copyCell⟩
              cases c0 with
              | list rows ow => cases ow <;> rfl
              | undef => simp [AV.one] at h1
              | agg => simp [AV.one] at h1
              | tuple => simp [AV.one] at h1
              | _ => rfl
            · cases hc0)
          have key : ((chunks (P.cellsOf e) len (cells.drop off)).map (·.map AV.copyCell)) ≠ [] → ∃ b o, al = some ⟨b, o, none⟩ ∧ ∀ k, k < ((chunks (P.cellsOf e) len (cells.drop off)).map (·.map AV.copyCell)).length * P.cellsOf e → w.cell? ⟨b, o + k, none⟩ = some (F k) := by
            intro hne
            have hl0 : 0 < len := by
              rcases Nat.eq_zero_or_pos len with h | h
              · subst h; exact absurd (List.eq_nil_of_length_eq_zero hml) hne
              · exact h
            obtain ⟨b, hb1, hb2⟩ := hF1 hl0
            exact ⟨b, off, hb1, by rw [hml]; exact hb2⟩
          have fin := srcS al c F key hra
          refine ⟨_, ?_, hra⟩
          have e1 : Value.slice al len c = Value.slice al ((chunks (P.cellsOf e) len (cells.drop off)).map (·.map AV.copyCell)).length c := by rw [hml]
          rw [e1]
          exact fin
      · cases he
    · cases he
  · rename_i bs
    split at he
    · rename_i hc0
      cases he
      simp only [Bool.and_eq_true, beq_iff_eq] at hc0
      cases hy
      refine ⟨byteCells ⟨bs.toArray⟩, ?_, ?_, ?_, ?_⟩
      · rw [hc0.2]
        have := firstCells_string (P := P) ⟨bs.toArray⟩
        refine ⟨hk, fun _ => by simp [Builtin.lenOf, str_size], by simpa [str_size] using this w, by simpa [str_size] using this w.drew, by rw [byteCells_length, str_size]; simp, ?_⟩
        intro u hu
        simp only [byteCells, List.mem_map] at hu
        obtain ⟨_, _, rfl⟩ := hu
        rfl
      · rw [byteCells_length, str_size, hc0.2]; simp
      · exact hrows
      · intro i r j c u hi hj hu
        rw [hc0.2] at hu
        simp only [List.getElem?_map, Option.map_eq_some_iff] at hi
        obtain ⟨x, hx, rfl⟩ := hi
        cases j with
        | succ j => simp [byteRow] at hj
        | zero =>
          simp [byteRow] at hj
          subst hj
          simp only [byteCells, Nat.mul_one, Nat.add_zero, List.getElem?_map, Option.map_eq_some_iff] at hu
          obtain ⟨y, hy, rfl⟩ := hu
          have : bs[i]? = some y := hy
          rw [hx] at this
          cases this
          exact ⟨rfl, .int⟩
    · cases he
  · cases he


theorem RowsAt.mono {w' : World} {g' : Gh} (m : Mono w g w' g') {s : Nat} {rows : List (List AV)} {vs : List Value} (h : RowsAt w g s rows vs) : RowsAt w' g' s rows vs :=
  ⟨h.1, h.2.1, fun i r j c u hi hj hu => ⟨(h.2.2 i r j c u hi hj hu).1, (h.2.2 i r j c u hi hj hu).2.mono m Moves.none⟩⟩

theorem RowsAt.append {s : Nat} {xs ys : List (List AV)} {us vs : List Value} (h1 : RowsAt w g s xs us) (h2 : RowsAt w g s ys vs) : RowsAt w g s (xs ++ ys) (us ++ vs) := by
  refine ⟨by simp [h1.1, h2.1, Nat.add_mul], fun r hr => by rcases List.mem_append.1 hr with h | h; exact h1.2.1 r h; exact h2.2.1 r h, fun i r j c u hi hj hu => ?_⟩
  have hrl : r.length = s := by rcases List.mem_append.1 (List.mem_of_getElem? hi) with h | h; exact h1.2.1 r h; exact h2.2.1 r h
  have hjs : j < s := by rw [← hrl]; exact (List.getElem?_eq_some_iff.1 hj).1
  by_cases hl : i < xs.length
  · rw [List.getElem?_append_left hl] at hi
    have : i * s + j < us.length := by
      rw [h1.1]
      have : (i + 1) * s ≤ xs.length * s := Nat.mul_le_mul_right _ (by omega)
      rw [Nat.add_mul] at this; omega
    rw [List.getElem?_append_left this] at hu
    exact h1.2.2 i r j c u hi hj hu
  · rw [List.getElem?_append_right (by omega)] at hi
    have hle : us.length ≤ i * s + j := by
      rw [h1.1]
      have : xs.length * s ≤ i * s := Nat.mul_le_mul_right _ (by omega)
      omega
    rw [List.getElem?_append_right hle, h1.1] at hu
    have e : i * s + j - xs.length * s = (i - xs.length) * s + j := by
      rw [Nat.sub_mul]
      have : xs.length * s ≤ i * s := Nat.mul_le_mul_right _ (by omega)
      omega
    rw [e] at hu
    exact h2.2.2 _ r j c u hi hj hu

/-- A list out of a block in which its rows lie. -/
theorem list_of_rows {w' : World} {g' : Gh} {wh : Wh} {s : Nat} {rows : List (List AV)} {vs : List Value} {b off n c : Nat} {o : Own} (hra : RowsAt w' g' s rows vs) (hn : n = rows.length) (hc : n ≤ c)
    (hcell : ∀ k, k < rows.length * s → g'.st b (off + k) ∧ w'.cell? ⟨b, off + k, none⟩ = vs[k]?) (hroom : Room w' g' (wh 0 0) o (some ⟨b, off, none⟩) n c) : Rep w' g' wh (.list rows o) (.slice (some ⟨b, off, none⟩) n c) := by
  have lt : ∀ (i : Nat) (r : List AV) (j : Nat) (cl : AV), rows[i]? = some r → r[j]? = some cl → i * s + j < rows.length * s ∧ ∃ u, vs[i * s + j]? = some u := by
    intro i r j cl hi hj
    have hil := (List.getElem?_eq_some_iff.1 hi).1
    have hjs : j < s := by rw [← hra.2.1 r (List.mem_of_getElem? hi)]; exact (List.getElem?_eq_some_iff.1 hj).1
    have : (i + 1) * s ≤ rows.length * s := Nat.mul_le_mul_right _ (by omega)
    rw [Nat.add_mul] at this
    have hlt : i * s + j < rows.length * s := by omega
    exact ⟨hlt, ⟨vs[i * s + j]'(by rw [hra.1]; exact hlt), by simp [show i * s + j < vs.length by rw [hra.1]; exact hlt]⟩⟩
  refine .list b off s (fun i j => (vs[i * s + j]?).getD undef) hn hc (fun _ => rfl) hra.2.1 (fun i r j cl hi hj => ?_) (fun i r j cl hi hj => ?_) hroom
  · obtain ⟨h1, u, h2⟩ := lt i r j cl hi hj
    obtain ⟨h3, h4⟩ := hcell _ h1
    refine ⟨(hra.2.2 i r j cl u hi hj h2).1, by rw [Nat.add_assoc]; exact h3, ?_⟩
    rw [Nat.add_assoc, h4, h2]; rfl
  · obtain ⟨h1, u, h2⟩ := lt i r j cl hi hj
    rw [h2]
    exact (hra.2.2 i r j cl u hi hj h2).2

/-- What a list's rows are in memory. -/
theorem rows_of_list {wh : Wh} {s : Nat} (hs : 0 < s) {rows : List (List AV)} {o : Own} {al : Option Addr} {n c : Nat} (hr : Rep w g wh (.list rows o) (.slice al n c)) (hall : ∀ r ∈ rows, r.length = s) :
    n = rows.length ∧ n ≤ c ∧ Room w g (wh 0 0) o al n c ∧ ∃ vs, RowsAt w g s rows vs ∧ (rows ≠ [] → ∃ b off, al = some ⟨b, off, none⟩ ∧ ∀ k, k < rows.length * s → g.st b (off + k) ∧ w.cell? ⟨b, off + k, none⟩ = vs[k]?) := by
  cases hr with
  | @list _ _ _ _ _ _ b off s' f hn hc ha hss h1 h2 hroom =>
    refine ⟨hn, hc, hroom, (List.range (rows.length * s)).map (fun k => f (k / s) (k % s)), ⟨by simp, hall, fun i r j cl u hi hj hu => ?_⟩, fun hne => ⟨b, off, ha hne, fun k hk => ?_⟩⟩
    · simp only [List.getElem?_map, Option.map_eq_some_iff] at hu
      obtain ⟨k, hk, rfl⟩ := hu
      have := (List.getElem?_eq_some_iff.1 hk).2
      simp at this
      subst this
      have hjs : j < s := by rw [← hall r (List.mem_of_getElem? hi)]; exact (List.getElem?_eq_some_iff.1 hj).1
      rw [Nat.add_comm, Nat.add_mul_div_right _ _ hs, Nat.add_mul_mod_self_right, Nat.div_eq_of_lt hjs, Nat.mod_eq_of_lt hjs, Nat.zero_add]
      exact ⟨(h1 i r j cl hi hj).1, h2 i r j cl hi hj⟩
    · have hss' : s' = s := by
        cases rows with
        | nil => exact absurd rfl hne
        | cons r0 rs => rw [← hss r0 (by simp), hall r0 (by simp)]
      subst hss'
      have d1 : k / s' < rows.length := Nat.div_lt_of_lt_mul (by rw [Nat.mul_comm]; exact hk)
      have d2 := Nat.mod_lt k hs
      have d3 : k / s' * s' + k % s' = k := by rw [Nat.mul_comm]; exact Nat.div_add_mod _ _
      have hrl := hall rows[k / s'] (by simp)
      have := h1 (k / s') rows[k / s'] (k % s') (rows[k / s'])[k % s'] (by simp [d1]) (by simp [hrl, d2])
      rw [Nat.add_assoc, d3] at this
      refine ⟨this.2.1, ?_⟩
      rw [this.2.2]
      simp [hk]

end
end Go.Ve

/- VE: append. -/
namespace Go.Ve
open Go

section
variable {P : Program} {w : World} {g : Gh} {h : H} {fr : List (Nat × AV)} {ob : List (Nat × Nat)} {a : Act}

/-- What lies at no temporary goes to where the value goes. -/
def toDst (d : Option Tmp) : Loc → Loc
  | .res p c => match d with
    | some d => .tmp d p c
    | none => .res p c
  | l => l
theorem toDst_turn (d : Option Tmp) : Turn (toDst d) where
  obj _ := rfl
  cell _ _ := rfl
  back l id h := by
    cases l <;> simp [toDst] at h
    · exact congrArg _ h
    · cases d <;> simp at h

/-- An operation that leaves its value at no temporary. -/
theorem OpOk.res {o : Oper} {v : AV} {m : Nat} (hx : ∃ n u w' g', (execOp a.eval o).run P w = .ok n w' ∧ (n = .value u ∨ n = .skip ∧ u = undef) ∧ Ev w g w' g' ∧ HR w' g' h ∧ FR w' g' fr ob a.tmps ∧
    Rep w' g' (fun p c => if m.testBit p then some (.res p c) else none) v u) : OpOk P a o fr ob m v h w g := by
  obtain ⟨n, u, w', g', h1, h2, h3, h4, h5, h6⟩ := hx
  have tn := toDst_turn o.dst
  refine ⟨n, u, w', _, h1, h2, h3.trans tn.ev, tn.hr h4, tn.fr h5 (fun t p c hb => ⟨hb, rfl⟩), tn.rep h6 ?_⟩
  intro p c l' hl
  unfold whD at hl
  cases hd : o.dst with
  | none => rw [hd] at hl; cases hl
  | some d =>
    rw [hd] at hl
    simp only at hl
    split at hl
    · rename_i hb
      cases hl
      exact ⟨.res p c, by simp [hb], by simp [toDst]⟩
    · cases hl

theorem isSlice_und {t : TypeId} (h : isSlice P t = true) : ∃ e, P.underlying t = some (.slice e) := by
  unfold isSlice at h
  split at h
  · exact ⟨_, by assumption⟩
  · cases h
theorem isStr_und {t : TypeId} (h : isStr P t = true) : P.underlying t = some .string := by
  unfold isStr at h
  split at h
  · assumption
  · cases h
theorem elemOf_und {t e : TypeId} (h : elemOf P t = some e) : P.underlying t = some (.slice e) := by
  unfold elemOf at h
  split at h
  · cases h; assumption
  · cases h

/-- Cells of a block that is at no temporary and at no object are written, behind what stays. -/
theorem room_write {b off : Nat} {cs : Array Value} {ty : TypeId} {f : Nat × Nat} {p c : Nat} (hH : HR w g h) (hb : w.heap[b]? = some (.cells cs ty f)) (ho : g.own b = some (.res p c)) (news : List Value) (hle : off + news.length ≤ cs.size)
    (hst : ∀ k, off ≤ k → ¬ g.st b k) :
    ∃ cs', (w.setCells b off news).heap[b]? = some (.cells cs' ty f) ∧ cs'.size = cs.size ∧
      let g' : Gh := ⟨g.own, fun b' k => g.st b' k ∨ b' = b ∧ off ≤ k ∧ k < off + news.length, g.rsv⟩
      Ev w g (w.setCells b off news) g' ∧ HR (w.setCells b off news) g' h ∧ (∀ l, l ≠ .res p c → Keeps w g (w.setCells b off news) g' l l) ∧
      ∀ k, off ≤ k → k < off + news.length → (w.setCells b off news).cell? ⟨b, k, none⟩ = news[k - off]? := by
  obtain ⟨⟨cs', e1, e2, e3⟩, e4, e5⟩ := setCells_at news w b off cs ty f hb hle
  obtain ⟨o1, o2⟩ := setCells_os w b off news
  have hbl : b < w.heap.size := hH.lt b _ ho
  refine ⟨cs', e1, e2, ?_⟩
  intro g'
  have keep : ∀ l, l ≠ .res p c → Keeps w g (w.setCells b off news) g' l l := by
    intro l hl b' hb'
    have hne : b' ≠ b := by rintro rfl; rw [ho] at hb'; cases hb'; exact hl rfl
    exact ⟨hb', e4 b' hne, fun k hk => by rcases hk with h | ⟨h, _⟩; exact h; exact absurd h hne⟩
  have ev : Ev w g (w.setCells b off news) g' := by
    refine ⟨by rw [e5]; exact Nat.le_refl _, fun b' k hs => ⟨.inl hs, ?_⟩, fun b' id hb' => hb', fun b' hlt hb' => ?_, o1, o2, fun _ h => h⟩
    · by_cases hne : b' = b
      · subst hne
        have hk : ¬ off ≤ k := fun hk => hst k hk hs
        have : cs'[k]? = cs[k]? := by rw [e3 k, if_neg (by omega)]
        simp [World.cell?, e1, hb, this]
      · simp [World.cell?, e4 b' hne]
    · have hne : b' ≠ b := by rintro rfl; rw [ho] at hb'; cases hb'
      exact ⟨hb', e4 b' hne, fun k hk => by rcases hk with h | ⟨h, _⟩; exact h; exact absurd h hne⟩
  refine ⟨ev, ?_, keep, ?_⟩
  · refine ⟨fun id o hid ht => (hH.obj id o hid ht).mono ev.mono (fun b' hb' => (keep _ (by simp) b' hb').2) (fun j => keep _ (by simp)), hH.inj, fun b' l hl => by rw [e5]; exact hH.lt b' l hl, hH.bd, fun b' k hs => ?_, hH.rsv, hH.rlt⟩
    rw [e5]
    rcases hs with hs | ⟨rfl, _⟩
    · exact hH.stlt b' k hs
    · exact hbl
  · intro k h1 h2
    have : cs'[k]? = news[k - off]? := by rw [e3 k, if_pos ⟨h1, h2⟩]
    simp [World.cell?, e1, this]

theorem append_ok (hH : HR w g h) (hF : FR w g fr ob a.tmps) {A : FAnn} {r i : Nat} {o : Oper} {x y : Operand} {t t2 e : TypeId} {cl : Call} (ho : o.op = .call cl) (hcb : cl.callee = .builtin .append) (hargs : cl.args.toList = [x, y]) (hts : cl.argTypes.toList = [t, t2])
    (he : elemOf P t = some e) (hk2 : (isSlice P t2 || isStr P t2) = true) {v : AV} (hv : appendTo P e h ((mOf A r i ob x).testBit 0) (vOf fr x) (vOf fr y) = some v) :
    OpOk P a o fr (obOff A r i ob x) full v h w g := by
  have hkind : (∃ e', P.underlying t2 = some (.slice e')) ∨ P.underlying t2 = some .string := by
    rcases Bool.or_eq_true_iff.1 hk2 with hk | hk
    · exact .inl (isSlice_und hk)
    · exact .inr (isStr_und hk)
  have ht := elemOf_und he
  have hca : cl.args = #[x, y] := by
    have : cl.args = (cl.args.toList).toArray := by simp
    rw [this, hargs]
  have hct : cl.argTypes = #[t, t2] := by
    have : cl.argTypes = (cl.argTypes.toList).toArray := by simp
    rw [this, hts]
  have hrun : ∀ n w', (Builtin.append_ #[t, t2] o.type #[a.eval x, a.eval y]).run P w = .ok n w' → (execOp a.eval o).run P w = .ok (.value n) w' := by
    intro n w' hr
    simp [execOp, ho, resolve, hcb, hca, hct, invoke, builtin, hr]
  refine OpOk.res ?_
  unfold appendTo at hv
  split at hv
  · rename_i z hz
    split at hv
    · rename_i hzc
      obtain ⟨zv, _, _, hzrep, hzi⟩ := zero_sound (P := P) (w := w) (g := g) (wh := wh0) hz
      obtain ⟨zc1, zc2⟩ := hzrep.cells hzc.2
      obtain ⟨i0, hi0, hiz⟩ : ∃ i0, P.info? e = some i0 ∧ i0.zero = some zv := by
        cases hi : P.info? e with
        | none => simp [hi] at hzi
        | some i0 => exact ⟨i0, rfl, by simpa [hi] using hzi⟩
      have hsize : i0.size = P.cellsOf e := by simp [Program.cellsOf, hi0]
      have hbytes : i0.bytes = P.bytesOf e := by simp [Program.bytesOf, hi0]
      obtain ⟨g1, e1, hH1, hF1, hr⟩ := take_give hH hF (A := A) (r := r) (i := i) x (fun p c => .res p c) (by intros; simp)
      have hy := hF1.eval (a := a) y
      unfold apSlice at hv
      split at hv
      · rename_i rows ow hxv
        simp only [Option.bind_eq_some_iff] at hv
        obtain ⟨more, hmore, hv⟩ := hv
        split at hv
        · rename_i hc
          obtain ⟨hmay, hs0, hrall, hmall, hfit, h46⟩ := hc
          cases hv
          have hs : 0 < P.cellsOf e := Nat.pos_of_ne_zero hs0
          rw [hxv] at hr
          obtain ⟨news, hsrc, hra2⟩ := rowsOf_src hH1 hs hy hmore hmall hkind
          generalize hux : a.eval x = ux at hr hrun
          cases ux with
          | slice al n c =>
            obtain ⟨rfl, hnc, hroom, olds, hra1, hcells⟩ := rows_of_list hs hr (rows_all hrall)
            have hroom' : c = rows.length ∨ ∃ b off cs ty f, al = some ⟨b, off, none⟩ ∧ g1.own b = some (.res 0 0) ∧ w.heap[b]? = some (.cells cs ty f) ∧ off + c * P.cellsOf e ≤ cs.size ∧
                (∀ k, off + rows.length * P.cellsOf e ≤ k → ¬ g1.st b k) ∧ (∀ k, off + rows.length * P.cellsOf e ≤ k → k < off + c * P.cellsOf e → w.frozen? ⟨b, k, none⟩ = false) := by
              cases ow with
              | no => cases hmay
              | cap => exact .inl hroom
              | nil => cases hmay
              | mem => cases hmay
              | own s' =>
                simp only [mayApp, Bool.and_eq_true, beq_iff_eq] at hmay
                obtain ⟨rfl, hm⟩ := hmay
                exact hroom (.res 0 0) (by simp [hm])
            have hra := hra1.append hra2
            have hlenr : (rows ++ more).length = rows.length + more.length := by simp
            rcases Nat.eq_zero_or_pos more.length with hm0 | hmp
            · -- nothing is appended
              have hmn : more = [] := List.eq_nil_of_length_eq_zero hm0
              subst hmn
              have hnn : news = [] := List.eq_nil_of_length_eq_zero (by rw [hra2.1]; simp)
              subst hnn
              refine ⟨_, _, w, g1, hrun _ _ (run_append_nothing w t t2 o.type e i0 ht hi0 al rows.length c hnc (a.eval y) (by rw [hsize]; exact hsrc)), .inl rfl, e1, hH1, hF1, ?_⟩
              simp only [List.append_nil]
              have hw : Room w g1 (some (.res 0 0)) (.own (P.cellsOf e)) al rows.length c := by
                intro l' hl'
                cases hl'
                exact hroom'
              cases hr with
              | list b off s f hn hc ha hss h1 h2 _ => exact .list b off s f hn hc ha hss h1 h2 (by simpa [full] using hw)
            · by_cases hfitc : rows.length + more.length ≤ c
              · -- in place
                rcases hroom' with hcn | ⟨b, off, cs, ty, f, rfl, hob, hb, hsz, hst, hfz⟩
                · omega
                · have hnl : news.length = more.length * P.cellsOf e := hra2.1
                  have hmul : (rows.length + more.length) * P.cellsOf e ≤ c * P.cellsOf e := Nat.mul_le_mul_right _ hfitc
                  rw [Nat.add_mul] at hmul
                  obtain ⟨cs', c1, c2, ev, hH2, keep, hget⟩ := room_write hH1 hb hob (off := off + rows.length * P.cellsOf e) news (by omega) hst
                  have hap := run_append_room_src (P := P) w t t2 o.type e i0 ht hi0 b off rows.length c (a.eval y) more.length news (by rw [hsize]; exact hsrc) hfitc
                    (fun j hj => by
                      have : off + rows.length * P.cellsOf e + j < cs.size := by omega
                      simp [hsize, World.cell?, hb, this])
                    (fun j hj => by rw [hsize]; exact hfz _ (by omega) (by omega))
                  rw [hsize] at hap
                  refine ⟨_, _, _, _, hrun _ _ hap, .inl rfl, e1.trans ev, hH2, hF1.mono ev.mono (fun t p c hb' => ⟨hb', keep _ (by simp)⟩), ?_⟩
                  refine list_of_rows (b := b) (off := off) (hra.mono ev.mono) (by simp) hfitc (fun k hk => ?_) ?_
                  · rw [hlenr, Nat.add_mul] at hk
                    by_cases hkl : k < rows.length * P.cellsOf e
                    · have hne : rows ≠ [] := by rintro rfl; simp at hkl
                      obtain ⟨b2, off2, hal, hcc⟩ := hcells hne
                      cases hal
                      obtain ⟨d1, d2⟩ := hcc k hkl
                      refine ⟨.inl d1, ?_⟩
                      rw [(ev.st _ _ d1).2, d2, List.getElem?_append_left (by rw [hra1.1]; exact hkl)]
                    · refine ⟨.inr ⟨rfl, by omega, by omega⟩, ?_⟩
                      rw [hget (off + k) (by omega) (by omega), List.getElem?_append_right (by rw [hra1.1]; omega), hra1.1]
                      congr 1
                      omega
                  · intro l' hl'
                    simp only [full] at hl'
                    have hl2 : l' = .res 0 0 := by simpa using hl'.symm
                    subst hl2
                    refine .inr ⟨b, off, cs', ty, f, rfl, hob, c1, by omega, fun k hk hs' => ?_, fun k hk1 hk2 => ?_⟩
                    · rw [Nat.add_mul] at hk
                      rcases hs' with h1 | ⟨_, h1, h2⟩
                      · exact hst k (by omega) h1
                      · omega
                    · rw [Nat.add_mul] at hk1
                      rw [World.frozen?_setCells]
                      exact hfz k (by omega) (by omega)
              · -- a new row
                have hge := grownCap_ge w (rows.length + more.length) c e
                have hap := run_append_grow_src (P := P) w t t2 o.type e i0 zv ht hi0 hiz al rows.length c olds (by
                    rw [hsize]
                    cases al with
                    | none =>
                      have hre : rows = [] := by
                        cases rows with
                        | nil => rfl
                        | cons r0 rs => obtain ⟨b, off, hal, _⟩ := hcells (by simp); cases hal
                      subst hre
                      have hoe : olds = [] := List.eq_nil_of_length_eq_zero (by rw [hra1.1]; simp)
                      subst hoe
                      simpa using run_firstCells_none w.drew (P.cellsOf e) 0 0 c
                    | some ad =>
                      refine run_firstCells_some w.drew (P.cellsOf e) _ ad _ c _ hra1.1 (fun j u hj => ?_)
                      have hjl : j < rows.length * P.cellsOf e := by rw [← hra1.1]; exact (List.getElem?_eq_some_iff.1 hj).1
                      have hne : rows ≠ [] := by rintro rfl; simp at hjl
                      obtain ⟨b, off, hal, hcc⟩ := hcells hne
                      cases hal
                      rw [Addr.add_lit, World.cell?_drew, (hcc j hjl).2, hj]) (a.eval y) more.length news (by rw [hsize]; exact hsrc) (by omega) (by omega) (by
                    have h1 := Go.Room.nextslicecap_le' (need := rows.length + more.length) (old := c) (by omega)
                    have h2 := Nat.mul_le_mul_right (P.bytesOf e) h1
                    rw [hbytes]
                    have h3 : 2 * (rows.length + more.length) * P.bytesOf e = 2 * ((rows.length + more.length) * P.bytesOf e) := by rw [Nat.mul_assoc]
                    omega)
                have n := new_mk_drew w g1 (.cells ((olds ++ news).toArray ++ Builtin.zeroCells zv.cells (grownCap w (rows.length + more.length) c e - (rows.length + more.length))) e) (some (.res 0 0)) (fun k => k < (rows.length + more.length) * P.cellsOf e)
                have hon : (olds ++ news).length = (rows.length + more.length) * P.cellsOf e := by rw [hra.1, hlenr]
                refine ⟨_, _, _, _, hrun _ _ hap, .inl rfl, e1.trans (n.ev hH1), n.hr hH1 (by simp), n.fr hH1 hF1, ?_⟩
                refine list_of_rows (b := w.heap.size) (off := 0) (hra.mono (n.ev hH1).mono) (by simp) hge (fun k hk => ?_) ?_
                · rw [hlenr] at hk
                  rw [n.st]
                  refine ⟨by simp; exact hk, ?_⟩
                  have : k < (olds ++ news).length := by omega
                  generalize w.drew.alloc _ = w2 at n
                  have h2 := n.at_new
                  simp only [World.cell?, h2]
                  simp only [Option.isSome_none, Bool.false_eq_true, if_false, Nat.zero_add]
                  rw [Array.getElem?_append_left (by simpa using this)]
                  simp
                · intro l' hl'
                  simp only [full] at hl'
                  have hl2 : l' = .res 0 0 := by simpa using hl'.symm
                  subst hl2
                  refine .inr ⟨w.heap.size, 0, _, e, _, rfl, by rw [n.own]; simp, n.at_new, ?_, fun k hk hs' => ?_, fun k _ _ => by have h2 := n.at_new; generalize w.drew.alloc _ = w2 at h2; simp only [World.frozen?, h2]; simp⟩
                  · have h1 : zv.cells.size = P.cellsOf e := by rw [zc1, hzc.1]
                    have h2 : (grownCap w (rows.length + more.length) c e - (rows.length + more.length)) * P.cellsOf e = grownCap w (rows.length + more.length) c e * P.cellsOf e - (rows.length + more.length) * P.cellsOf e := Nat.sub_mul _ _ _
                    have h3 : (rows.length + more.length) * P.cellsOf e ≤ grownCap w (rows.length + more.length) c e * P.cellsOf e := Nat.mul_le_mul_right _ hge
                    simp only [Array.size_append, List.size_toArray, size_zeroCells, hon, h1]
                    omega
                  · rw [n.st] at hs'
                    simp at hs'
                    omega
          | _ => cases hr
        · cases hv
      · cases hv
    · cases hv
  · cases hv

end
end Go.Ve

/- VE: slices made; maps written; interfaces and functions made. -/
namespace Go.Ve
open Go

section
variable {P : Program} {w : World} {g : Gh} {h : H} {fr : List (Nat × AV)} {ob : List (Nat × Nat)} {a : Act}

theorem makeInterface_ok (hH : HR w g h) (hF : FR w g fr ob a.tmps) {o : Oper} {t : TypeId} {x : Operand} (ho : o.op = .makeInterface t x) {v : AV} (he : totOp P fr o.op = some v) : OpOk P a o fr ob 0 v h w g := by
  rw [ho] at he
  simp only [totOp] at he
  have hx := hF.eval (a := a) x
  split at he
  · cases he
  · cases he
  · rename_i hni hnn
    cases he
    cases hu : P.underlying t with
    | none => exact absurd hu hnn
    | some d =>
      refine .read hH hF (u := .iface t (a.eval x)) ?_ (.iface hx.copy)
      cases d with
      | interface l => exact absurd hu (hni l)
      | _ => simp [execOp, ho, Instr.makeInterface, run_underlying hu]

theorem makeFunc_ok (hH : HR w g h) (hF : FR w g fr ob a.tmps) {o : Oper} {f : Fn} {x y : Array Operand} (ho : o.op = .makeFunc f x y) {v : AV} (he : totOp P fr o.op = some v) : OpOk P a o fr ob 0 v h w g := by
  rw [ho] at he
  simp only [totOp] at he
  cases he
  have key : ∀ (x : Array Operand) (i : Nat) (u : AV) (v : Value), (x.toList.map fun x => (vOf fr x).copy)[i]? = some u → (x.map a.eval)[i]? = some v → Rep w g wh0 u v := by
    intro x i u v hu hv
    simp only [List.getElem?_map, Option.map_eq_some_iff, Array.getElem?_map] at hu hv
    obtain ⟨z, hz, rfl⟩ := hu
    obtain ⟨z', hz', rfl⟩ := hv
    have : z = z' := by
      rw [Array.getElem?_toList] at hz
      rw [hz] at hz'
      cases hz'; rfl
    subst this
    exact (hF.eval (a := a) z).copy
  exact .read hH hF (u := .func f (x.map a.eval) (y.map a.eval)) (by simp [execOp, ho, Instr.makeFunc]) (.func (by simp) (by simp) (key x) (key y))

theorem findKey_at {x : AV} : ∀ (es : List (AV × AV)) (i j : Nat), findKey x es i = some (some j) → ∃ e, i ≤ j ∧ es[j - i]? = some e ∧ keyEq x e.1 = some true
  | [], i, j, h => by simp [findKey] at h
  | e :: es, i, j, h => by
    unfold findKey at h
    split at h
    · rename_i hk
      cases h
      exact ⟨e, Nat.le_refl _, by simp, hk⟩
    · obtain ⟨e', h1, h2, h3⟩ := findKey_at es (i + 1) j h
      exact ⟨e', by omega, by rw [show j - i = (j - (i + 1)) + 1 by omega]; simpa using h2, h3⟩
    · cases h

theorem keyStays {x y : AV} {u v : Value} {wh wh' : Wh} (hx : Rep w g wh x u) (hy : Rep w g wh' y v) (he : keyEq x y = some true) : (Instr.keyThatStays v u).run P w = .ok u w := by
  cases x <;> cases y <;> simp [keyEq] at he
  · subst he; cases hx; cases hy; simp [Instr.keyThatStays, Instr.sameBits]
  · obtain ⟨rfl, rfl⟩ := he; cases hx; cases hy; simp [Instr.keyThatStays, Instr.sameBits]
  · subst he; cases hx; cases hy; simp [Instr.keyThatStays, Instr.sameBits, beq_toListBytes, str_toList]

theorem mapUpdate_ok (hH : HR w g h) (hF : FR w g fr ob a.tmps) {o : Oper} {t : TypeId} {m k x : Operand} (ho : o.op = .mapUpdate t m k x ∨ o.op = .insert t m k x) {p : AV × H} (he : mapUpdate P t h (vOf fr m) (vOf fr k) (vOf fr x) = some p) : OpOk P a o fr ob 0 p.1 p.2 w g := by
  have hm := hF.eval (a := a) m
  have hk := hF.eval (a := a) k
  have hx := hF.eval (a := a) x
  have hex : ∀ w', (Instr.mapUpdate t (a.eval m) (a.eval k) (a.eval x)).run P w = .ok () w' → (execOp a.eval o).run P w = .ok .skip w' := by
    intro w' h1
    rcases ho with ho | ho <;> simp [execOp, ho, h1]
  unfold mapUpdate at he
  split at he
  · rename_i kt et hu
    split at he
    · rename_i kk hkt
      obtain ⟨d, hd, hdd⟩ := keyKind_und hkt
      unfold upMap at he
      split at he
      · rename_i id hvm
        split at he
        · rename_i es hid
          split at he
          · rename_i hkey
            simp only [Option.bind_eq_some_iff] at he
            obtain ⟨r, hf, he⟩ := he
            rw [hvm] at hm
            generalize hum : a.eval m = um at hm hex
            cases hm with
            | @map _ _ b hob =>
              cases hH.obj id _ hid ⟨_, hob⟩ with
              | @map _ b' ms clock ho' hb hs hst hc =>
                obtain rfl := hH.inj _ _ _ hob ho'
                have hst' : ∀ b', g.own b' = some (.obj id) → ∀ k, ¬ g.st b' k := fun b' hb' => by rw [hH.inj _ _ _ hb' hob]; exact hst
                have hbl := hH.lt b _ hob
                have hck := run_checkKey' (P := P) hk hd hdd hkey false 9999
                have wr : ∀ o' : Obj, Wrote w g id { w with heap := w.heap.setIfInBounds b o' } := fun o' => ⟨by simp, fun b' hb' => by
                  have : b' ≠ b := fun h => hb' (by rw [h]; exact hob)
                  simp [Ne.symm this], rfl, rfl⟩
                have fin : ∀ (ms' : Array MapEntry) (clock' : Nat) (es' : List (AV × AV)), (Instr.mapUpdate t (.map (some b)) (a.eval k) (a.eval x)).run P w = .ok () { w with heap := w.heap.setIfInBounds b (.map ms' clock') } →
                    p = (.undef, h.set id (.map es')) → ms'.size = es'.length → (∀ (j : Nat) e m, es'[j]? = some e → ms'[j]? = some m → Rep w g wh0 e.1 m.key ∧ Rep w g wh0 e.2 m.val) → OpOk P a o fr ob 0 p.1 p.2 w g := by
                  intro ms' clock' es' h1 h2 h3 h4
                  subst h2
                  have wr' := wr (.map ms' clock')
                  exact ⟨_, _, _, g, hex _ h1, .inr ⟨rfl, rfl⟩, wr'.ev hst', wr'.hr hst' hH (.map (ms := ms') (clock := clock') hob (by simp [hbl]) h3 hst (fun j e m a1 a2 => ⟨(h4 j e m a1 a2).1.mono (wr'.ev hst').mono Moves.none, (h4 j e m a1 a2).2.mono (wr'.ev hst').mono Moves.none⟩)) (hH.bd b id hob), wr'.fr hst' hF, .undef⟩
                rcases findKey_sound hk hdd hkey es ms.toList 0 r (by simpa using hs) (fun j e m h1 h2 => hc j e m h1 (by simpa using h2)) hf with ⟨rfl, h2⟩ | ⟨j, mm, rfl, h2, h3⟩
                · simp only [Option.some.injEq] at he
                  refine fin (ms.push { key := a.eval k, val := a.eval x, born := clock }) (clock + 1) (es ++ [(vOf fr k, (vOf fr x).copy)]) ?_ he.symm (by simp [hs]) ?_
                  · simp [Instr.mapUpdate, run_underlying hu, MapKept.run_getObj_map hb, hck, MapKept.run_findKey (P := P) (w := w) (kt := kt) hd h2, MapKept.run_setObj_map _ hb]
                  · intro j e m h1 h2
                    rw [Array.getElem?_push] at h2
                    by_cases hj : j = ms.size
                    · subst hj
                      rw [if_pos rfl] at h2
                      rw [hs, List.getElem?_append_right (Nat.le_refl _)] at h1
                      simp at h1 h2
                      subst h1 h2
                      exact ⟨hk, hx.copy⟩
                    · rw [if_neg hj] at h2
                      have : j < es.length := by have := (Array.getElem?_eq_some_iff.1 h2).1; omega
                      rw [List.getElem?_append_left this] at h1
                      exact hc j e m h1 h2
                · simp only [Option.some.injEq] at he
                  rw [Nat.zero_add] at he h3
                  obtain ⟨e0, _, h5, h6⟩ := findKey_at es 0 (0 + j) hf
                  simp only [Nat.zero_add, Nat.sub_zero] at h5
                  have h2' : ms[j]? = some mm := by simpa using h2
                  have hks := keyStays (P := P) hk (hc j e0 mm h5 h2').1 h6
                  refine fin (ms.modify j fun e => { e with key := a.eval k, val := a.eval x }) clock (es.modify j fun _ => (vOf fr k, (vOf fr x).copy)) ?_ he.symm (by simp [hs]) ?_
                  · simp [Instr.mapUpdate, run_underlying hu, MapKept.run_getObj_map hb, hck, MapKept.run_findKey (P := P) (w := w) (kt := kt) hd h3, h2', hks, MapKept.run_setObj_map _ hb]
                  · intro j' e m h1 h2
                    rw [Array.getElem?_modify] at h2
                    rw [List.getElem?_modify] at h1
                    by_cases hj : j = j'
                    · subst hj
                      simp [h5] at h1
                      simp [h2'] at h2
                      subst h1 h2
                      exact ⟨hk, hx.copy⟩
                    · simp [hj] at h1 h2
                      exact hc j' e m h1 h2
          · cases he
        · cases he
      · cases he
    · cases he
  · cases he

/-! ### slices made -/

theorem flat_replicate (z : List AV) (hz : 0 < z.length) : ∀ (n j : Nat), ((List.replicate n z).flatten)[j]? = if j < n * z.length then z[j % z.length]? else none
  | 0, j => by simp
  | n + 1, j => by
    rw [List.replicate_succ, List.flatten_cons]
    by_cases hj : j < z.length
    · rw [List.getElem?_append_left hj, Nat.mod_eq_of_lt hj, if_pos (by rw [Nat.add_mul]; omega)]
    · rw [List.getElem?_append_right (by omega), flat_replicate z hz n]
      have e : j % z.length = (j - z.length) % z.length := by rw [Nat.mod_eq_sub_mod (by omega)]
      rw [e, Nat.add_mul]
      by_cases h2 : j - z.length < n * z.length
      · rw [if_pos h2, if_pos (by omega)]
      · rw [if_neg h2, if_neg (by omega)]

theorem made_get (z : Array Value) (hz : 0 < z.size) (n j : Nat) (hj : j < n) : (madeCells z n)[j]? = z[j % z.size]? := by
  have : j % z.size < z.size := Nat.mod_lt _ hz
  simp [madeCells, hj, this]

theorem rows_made {z : List AV} {zs : Array Value} (hz : zs.size = z.length) (h0 : 0 < z.length) (hc : ∀ (j : Nat) c u, z[j]? = some c → zs[j]? = some u → c.one = true ∧ Rep w g wh0 c u) (n m : Nat) (hm : n * z.length ≤ m) :
    RowsAt w g z.length (List.replicate n z) ((madeCells zs m).toList.take (n * z.length)) := by
  refine ⟨by simp [size_madeCells]; omega, fun r hr => by rw [List.eq_of_mem_replicate hr], fun i r j c u hi hj hu => ?_⟩
  have hil : i < n := by have := (List.getElem?_eq_some_iff.1 hi).1; simpa using this
  have hr : r = z := by
    have := List.mem_of_getElem? hi
    exact List.eq_of_mem_replicate this
  subst hr
  have hjl := (List.getElem?_eq_some_iff.1 hj).1
  have hlt : i * r.length + j < n * r.length := by
    have : (i + 1) * r.length ≤ n * r.length := Nat.mul_le_mul_right _ (by omega)
    rw [Nat.add_mul] at this; omega
  rw [List.getElem?_take, if_pos hlt, Array.getElem?_toList, made_get zs (by omega) m _ (by omega), hz, Nat.add_comm, Nat.add_mul_mod_self_right, Nat.mod_eq_of_lt hjl] at hu
  exact hc j c u hj hu

theorem makeSlice_ok (hH : HR w g h) (hF : FR w g fr ob a.tmps) {o : Oper} {t : TypeId} {l c : Operand} (ho : o.op = .makeSlice t l c) {asList : Bool} {p : AV × H} (he : makeSlice P t asList h (vOf fr l) (vOf fr c) = some p) :
    OpOk P a o fr ob full p.1 p.2 w g := by
  have hl := hF.eval (a := a) l
  have hc := hF.eval (a := a) c
  unfold makeSlice at he
  split at he
  · rename_i e hel
    have ht := elemOf_und hel
    split at he
    · rename_i z hz
      split at he
      · rename_i hzc
        obtain ⟨hz0, hzl, hzo⟩ := hzc
        unfold mkSlice at he
        split at he
        · rename_i ln cn hvl hvc
          rw [hvl] at hl
          rw [hvc] at hc
          generalize hul : a.eval l = ul at hl
          generalize huc : a.eval c = uc at hc
          cases hl; cases hc
          split at he
          · rename_i hb
            obtain ⟨hb0, hb1, hb2, hb3⟩ := hb
            obtain ⟨zv, _, _, hzrep, hzi⟩ := zero_sound (P := P) (w := w) (g := g) (wh := wh0) hz
            obtain ⟨i0, hi0, hiz⟩ : ∃ i0, P.info? e = some i0 ∧ i0.zero = some zv := by
              cases hi : P.info? e with
              | none => simp [hi] at hzi
              | some i0 => exact ⟨i0, rfl, by simpa [hi] using hzi⟩
            have hsize : i0.size = P.cellsOf e := by simp [Program.cellsOf, hi0]
            have hbytes : i0.bytes = P.bytesOf e := by simp [Program.bytesOf, hi0]
            obtain ⟨zc1, zc2⟩ := hzrep.cells hzo
            have hrun := run_make (P := P) w t e i0 zv ht hi0 hiz .i64 .i64 ln cn hb0 hb1 (by
              rw [hbytes, Int.mul_comm]
              exact Int.le_trans hb3 (by decide)) (by omega)
            rw [hsize] at hrun
            have hex : (execOp a.eval o).run P w = .ok (.value (.slice (some ⟨w.heap.size, 0, none⟩) ln.toNat cn.toNat)) (w.alloc (.cells (madeCells zv.cells (cn.toNat * P.cellsOf e)) e)) := by
              simp [execOp, ho, hul, huc, hrun]
            have hln : ln.toNat ≤ cn.toNat := by omega
            have hmul : ln.toNat * P.cellsOf e ≤ cn.toNat * P.cellsOf e := Nat.mul_le_mul_right _ hln
            cases asList with
            | true =>
              simp only [if_true, Option.some.injEq] at he
              subst he
              refine OpOk.res ?_
              have n := new_mk w g (.cells (madeCells zv.cells (cn.toNat * P.cellsOf e)) e) (some (.res 0 0)) (fun k => k < ln.toNat * P.cellsOf e)
              refine ⟨_, _, _, _, hex, .inl rfl, n.ev hH, n.hr hH (by simp), n.fr hH hF, ?_⟩
              have hra := rows_made (zs := zv.cells) (z := z.cells) zc1 (by omega) (fun j c u h1 h2 => ⟨(zc2 j c u h1 h2).1, (zc2 j c u h1 h2).2.weak⟩) ln.toNat (cn.toNat * P.cellsOf e) (by rw [hzl]; exact hmul)
              rw [hzl] at hra
              generalize w.alloc _ = w2 at n ⊢
              have hat := n.at_new
              refine list_of_rows (b := w.heap.size) (off := 0) (hra.mono (n.ev hH).mono) (by simp) hln (fun k hk => ?_) ?_
              · simp only [List.length_replicate] at hk
                refine ⟨by rw [n.st]; simp; exact hk, ?_⟩
                simp only [World.cell?, hat, Option.isSome_none, Bool.false_eq_true, if_false, Nat.zero_add]
                rw [List.getElem?_take, if_pos hk, Array.getElem?_toList]
              · intro l' hl'
                have hl2 : l' = .res 0 0 := by simpa [full] using hl'.symm
                subst hl2
                refine .inr ⟨w.heap.size, 0, _, e, _, rfl, by rw [n.own]; simp, hat, by rw [size_madeCells]; omega, fun k hk hs' => ?_, fun k _ _ => by simp only [World.frozen?, hat]; simp⟩
                rw [n.st] at hs'
                simp at hs'
                omega
            | false =>
              simp only [Bool.false_eq_true, if_false, Option.some.injEq] at he
              subst he
              obtain ⟨zv', _, _, hzrep', hzi'⟩ := zero_sound (P := P) (w := w) (g := g) (wh := fun _ _ => some (.obj 0)) hz
              have n := new_mk w g (.cells (madeCells zv.cells (cn.toNat * P.cellsOf e)) e) (some (.obj h.length)) (fun _ => False)
              have hown : (g.new w.heap.size (some (.obj h.length)) (fun _ => False)).own w.heap.size = some (.obj h.length) := by rw [n.own]; simp
              refine ⟨_, _, _, _, hex, .inl rfl, n.ev hH, n.hr_obj rfl hH ?_, n.fr hH hF, .slc hln (.inr ⟨_, rfl, hown⟩)⟩
              have hfl : (List.replicate cn.toNat z.cells).flatten.length = cn.toNat * P.cellsOf e := by simp [hzl]
              refine arr_rep (b := w.heap.size) hown n.at_new (by rw [size_madeCells, hfl]) (fun j c v hj hv => ?_) (fun k hk => by rw [n.st] at hk; simp at hk)
              have hjl : j < cn.toNat * P.cellsOf e := by rw [← hfl]; exact (List.getElem?_eq_some_iff.1 hj).1
              rw [flat_replicate z.cells (by omega), hzl, if_pos hjl] at hj
              rw [made_get _ (by omega) _ _ hjl, zc1, hzl] at hv
              have h1 := (zc2 _ c v hj hv).1
              refine ⟨h1, ?_⟩
              obtain ⟨zv2, _, _, hr2, hi2⟩ := zero_sound (P := P) (w := w) (g := g) (wh := fun _ _ => some (.cell h.length j)) hz
              have : zv2 = zv := by rw [hzi] at hi2; cases hi2; rfl
              subst this
              exact n.rep hH ((hr2.cells hzo).2 _ c v hj hv).2
          · cases he
        · cases he
      · cases he
    · cases he
  · cases he

theorem bytes_ok (hH : HR w g h) (hF : FR w g fr ob a.tmps) {o : Oper} {src dst e : TypeId} {x : Operand} (ho : o.op = .convert src dst x) (hs : P.underlying src = some .string) (hd : P.underlying dst = some (.slice e)) {v : AV} (he : convert P src dst h (vOf fr x) = some v) :
    OpOk P a o fr ob full v h w g := by
  have hx := hF.eval (a := a) x
  simp only [convert, hs, hd] at he
  split at he
  · rename_i hb
    simp only [Bool.and_eq_true, beq_iff_eq] at hb
    have heu : P.underlying e = some (.int .u8) := by
      have := hb.1
      unfold isByte at this
      split at this
      · assumption
      · cases this
    unfold strBytes at he
    split at he
    · rename_i bs hv
      cases he
      rw [hv] at hx
      generalize hu : a.eval x = u at hx
      cases hx
      have hrun := run_bytes_of_string (P := P) w src dst e ⟨bs.toArray⟩ hs hd heu
      rw [str_size] at hrun
      generalize hcap : grownCap w bs.length 0 e = cap at hrun
      have hge : bs.length ≤ cap := by rw [← hcap]; exact grownCap_ge w bs.length 0 e
      have hbsz : (bytesRow ⟨bs.toArray⟩ cap).size = cap := by simp [bytesRow, str_size]; omega
      rw [hbsz] at hrun
      refine OpOk.res ?_
      have n : New w g (.cells (bytesRow ⟨bs.toArray⟩ cap) e (cap, cap + 1)) (some (.res 0 0)) (fun k => k < bs.length) _ (g.new w.heap.size (some (.res 0 0)) fun k => k < bs.length) := new_mk_drew w g _ _ _
      refine ⟨_, _, _, _, by simp only [execOp, ho, Sem.run_bind, hu, hrun]; rfl, .inl rfl, n.ev hH, n.hr hH (by simp), n.fr hH hF, ?_⟩
      generalize w.drew.alloc _ = w2 at n ⊢
      have hat := n.at_new
      have hra : RowsAt w g 1 (bs.map byteRow) (bs.map fun b => Value.int .u8 b.toNat) := by
        refine ⟨by simp, fun r hr => ?_, fun i r j c u hi hj hu => ?_⟩
        · obtain ⟨b, _, rfl⟩ := List.mem_map.1 hr; rfl
        · simp only [List.getElem?_map, Option.map_eq_some_iff] at hi
          obtain ⟨b, hb, rfl⟩ := hi
          cases j with
          | succ j => simp [byteRow] at hj
          | zero =>
            simp [byteRow] at hj
            subst hj
            simp only [Nat.mul_one, Nat.add_zero, List.getElem?_map, hb, Option.map_some, Option.some.injEq] at hu
            subst hu
            exact ⟨rfl, .int⟩
      refine list_of_rows (b := w.heap.size) (off := 0) (hra.mono (n.ev hH).mono) (by simp) hge (fun k hk => ?_) ?_
      · simp only [List.length_map, Nat.mul_one] at hk
        refine ⟨by rw [n.st]; simp; exact hk, ?_⟩
        simp only [World.cell?, hat, Option.isSome_none, Bool.false_eq_true, if_false, Nat.zero_add]
        rw [bytesRow_at _ _ _ (by simpa using hk)]
        simp [hk]
      · intro l' hl'
        have hl2 : l' = .res 0 0 := by simpa [full] using hl'.symm
        subst hl2
        refine .inr ⟨w.heap.size, 0, _, e, _, rfl, by rw [n.own]; simp, hat, by rw [hbsz]; omega, fun k hk hs' => ?_, fun k _ hk => by simp only [World.frozen?, hat]; simp; omega⟩
        rw [n.st] at hs'
        simp at hs'
        omega
    · cases he
  · cases he

end
end Go.Ve

/- VE: slices built. -/
namespace Go.Ve
open Go

section
variable {P : Program} {w : World} {g : Gh} {h : H} {fr : List (Nat × AV)} {ob : List (Nat × Nat)} {a : Act}

theorem canon_cells (x : AV) : x.canon.cells = x.cells.map AV.canonCell := by
  cases x <;> rfl
theorem canon_one {x : AV} (h : x.one = true) : x.canonCell.one = true := by
  cases x <;> first | exact h | rfl

theorem RowsAt.set {s : Nat} {rows : List (List AV)} {zs zs' : Array Value} {i : Nat} {row : List AV} {vs : Array Value} (h : RowsAt w g s rows zs.toList) (hr : row.length = s) (hv : vs.size = s)
    (hc : ∀ (j : Nat) c u, row[j]? = some c → vs[j]? = some u → c.one = true ∧ Rep w g wh0 c u) (hi : i < rows.length) (hsz : zs'.size = zs.size)
    (hget : ∀ j, zs'[j]? = if i * s ≤ j ∧ j < i * s + s then vs[j - i * s]? else zs[j]?) : RowsAt w g s (rows.set i row) zs'.toList := by
  refine ⟨by have := h.1; simp at this ⊢; omega, fun r hm => ?_, fun i' r j c u hi' hj hu => ?_⟩
  · rcases List.mem_or_eq_of_mem_set hm with h1 | h1
    · exact h.2.1 r h1
    · rw [h1]; exact hr
  · rw [Array.getElem?_toList, hget] at hu
    by_cases he : i' = i
    · subst he
      rw [List.getElem?_set_self (by omega)] at hi'
      cases hi'
      have hjs : j < s := by rw [← hr]; exact (List.getElem?_eq_some_iff.1 hj).1
      rw [if_pos (by omega)] at hu
      exact hc j c u hj (by simpa using hu)
    · rw [List.getElem?_set_ne (Ne.symm he)] at hi'
      have hjs : j < s := by rw [← h.2.1 r (List.mem_of_getElem? hi')]; exact (List.getElem?_eq_some_iff.1 hj).1
      have hno : ¬ (i * s ≤ i' * s + j ∧ i' * s + j < i * s + s) := by
        intro hx
        rcases Nat.lt_or_gt_of_ne he with hlt | hlt
        · have : (i' + 1) * s ≤ i * s := Nat.mul_le_mul_right _ hlt
          rw [Nat.add_mul] at this; omega
        · have : (i + 1) * s ≤ i' * s := Nat.mul_le_mul_right _ hlt
          rw [Nat.add_mul] at this; omega
      rw [if_neg hno] at hu
      exact h.2.2 i' r j c u hi' hj (by simpa using hu)

theorem fold_rows {s : Nat} : ∀ (ps : List (Nat × AV)) (vs : List (Nat × Value)) (rows : List (List AV)) (zs : Array Value) (r : List (List AV)), vs.length = ps.length → RowsAt w g s rows zs.toList →
    (∀ (j : Nat) p v, ps[j]? = some p → vs[j]? = some v → p.1 = v.1 ∧ Rep w g wh0 p.2 v.2) →
    ps.foldlM (fun rows p => if p.2.cells.length = s ∧ p.2.cells.all AV.one ∧ p.1 < rows.length then some (rows.set p.1 p.2.canon.cells) else none) rows = some r →
    ∃ rs : Array Value, Instr.fill (fun i => some (i * s, s)) zs vs = some rs ∧ RowsAt w g s r rs.toList ∧ r.length = rows.length := by
  intro ps
  induction ps with
  | nil =>
    intro vs rows zs r hl hra _ he
    cases vs with
    | nil => simp at he; subst he; exact ⟨zs, rfl, hra, rfl⟩
    | cons => simp at hl
  | cons p ps ih =>
    intro vs rows zs r hl hra hp he
    cases vs with
    | nil => simp at hl
    | cons v vs =>
      simp only [List.foldlM_cons, Option.bind_eq_bind, Option.bind_eq_some_iff] at he
      obtain ⟨rows', hr', he⟩ := he
      split at hr'
      · rename_i hc
        cases hr'
        obtain ⟨hc1, hc2, hc3⟩ := hc
        obtain ⟨e1, e2⟩ := hp 0 p v rfl rfl
        obtain ⟨d1, d2⟩ := e2.cells hc2
        have hzl : zs.size = rows.length * s := by have := hra.1; simpa using this
        have hfit : p.1 * s + s ≤ zs.size := by
          have : (p.1 + 1) * s ≤ rows.length * s := Nat.mul_le_mul_right _ hc3
          rw [Nat.add_mul] at this; omega
        have hfs := fold_set (p.1 * s) v.2.cells.toList 0 zs
        have hra' : RowsAt w g s (rows.set p.1 p.2.canon.cells) (v.2.cells.zipIdx.foldl (fun cs (c, j) => cs.setIfInBounds (p.1 * s + j) c) zs).toList := by
          refine hra.set (vs := v.2.cells) (by rw [canon_cells]; simpa using hc1) (by omega) (fun j c u hj hu => ?_) hc3 ?_ (fun j => ?_)
          · rw [canon_cells, List.getElem?_map, Option.map_eq_some_iff] at hj
            obtain ⟨c0, hc0, rfl⟩ := hj
            obtain ⟨h1, h2⟩ := d2 j c0 u hc0 hu
            exact ⟨canon_one h1, h2.weak.canonCell⟩
          · have := hfs.1
            have e : (v.2.cells.zipIdx.foldl (fun cs (c, j) => cs.setIfInBounds (p.1 * s + j) c) zs) = ((v.2.cells.toList.zipIdx 0).foldl (fun (cs : Array Value) (q : Value × Nat) => cs.setIfInBounds (p.1 * s + q.2) q.1) zs) := by
              rw [← Array.foldl_toList]; simp [Array.toList_zipIdx]
            rw [e]; exact this
          · have := hfs.2 j
            simp only [← Array.foldl_toList, Array.toList_zipIdx]
            rw [this]
            by_cases hj : p.1 * s ≤ j ∧ j < p.1 * s + s
            · rw [if_pos hj, if_pos (by simp; omega)]; simp
            · rw [if_neg hj, if_neg (by simp; omega)]
        obtain ⟨rs, f1, f2, f3⟩ := ih vs _ _ r (by simpa using hl) hra' (fun j q u hq hu => hp (j + 1) q u hq hu) he
        refine ⟨rs, ?_, f2, by rw [f3]; simp⟩
        obtain ⟨i, vv⟩ := v
        simp only at e1 d1 f1 hfit ⊢
        subst e1
        unfold Instr.fill
        simp only
        rw [if_neg (by simp; omega)]
        exact f1
      · cases hr'

theorem buildSlice_ok (hH : HR w g h) (hF : FR w g fr ob a.tmps) {o : Oper} {t : TypeId} {len : Nat} {parts : Array (Nat × Operand)} (ho : o.op = .buildSlice t len parts) {v : AV} (he : buildSlice P t len (parts.toList.map fun (p : Nat × Operand) => (p.1, vOf fr p.2)) = some v) :
    OpOk P a o fr ob 0 v h w g := by
  unfold buildSlice at he
  split at he
  · cases he
  · rename_i e hel
    have ht := elemOf_und hel
    split at he
    · rename_i z hz
      split at he
      · rename_i hc
        obtain ⟨hi, hs0, hsz, hzl, hzo⟩ := hc
        simp only [mkRows, Option.map_eq_some_iff] at he
        obtain ⟨rows, hm, rfl⟩ := he
        obtain ⟨zv, hzr, _, hzrep, hzi⟩ := zero_sound (P := P) (w := w) (g := g) (wh := wh0) hz
        obtain ⟨zc1, zc2⟩ := hzrep.cells hzo
        have hra := rows_made (zs := zv.cells) (z := z.cells) zc1 (by omega) (fun j c u h1 h2 => ⟨(zc2 j c u h1 h2).1, (zc2 j c u h1 h2).2.weak⟩) len (len * P.cellsOf e) (by rw [hzl]; exact Nat.le_refl _)
        rw [hzl, List.take_of_length_le (by simp [size_madeCells])] at hra
        obtain ⟨rs, f1, f2, f3⟩ := fold_rows (parts.toList.map fun (p : Nat × Operand) => (p.1, vOf fr p.2)) (parts.toList.map fun (p : Nat × Operand) => (p.1, a.eval p.2)) _ _ rows (by simp) hra (fun j p v hp hv => by
          simp only [List.getElem?_map, Option.map_eq_some_iff] at hp hv
          obtain ⟨q, hq, rfl⟩ := hp
          obtain ⟨q', hq', rfl⟩ := hv
          rw [hq] at hq'
          cases hq'
          exact ⟨rfl, hF.eval q.2⟩) hm
        simp only [List.length_replicate] at f3
        have hex : (execOp a.eval o).run P w = .ok (.value (.slice (some ⟨w.heap.size, 0, none⟩) len len)) (w.alloc (.cells rs e)) := by
          have h24 : ¬ (len * P.cellsOf e > 2 ^ 24) := by omega
          have h24' : ¬ (16777216 < len * P.cellsOf e) := by omega
          have hmz : (if len * P.cellsOf e = 0 then (#[] : Array Value) else zv.cells).size = if len * P.cellsOf e = 0 then 0 else zv.cells.size := by split <;> rfl
          by_cases hl0 : len * P.cellsOf e = 0
          · have hm0 : madeCells zv.cells (len * P.cellsOf e) = #[] := by rw [hl0]; simp [madeCells, Array.range_zero']
            rw [hm0] at f1
            simp [execOp, ho, Instr.buildSlice, run_underlying ht, run_sizeOf' hi, hl0, Array.range_zero', f1, newRow]
          · simp [execOp, ho, Instr.buildSlice, run_underlying ht, run_sizeOf' hi, h24', hl0, hzr, newRow]
            rw [madeCells] at f1
            simp [f1]
        have n := new_mk w g (.cells rs e) none (fun k => k < len * P.cellsOf e)
        refine ⟨_, _, _, _, hex, .inl rfl, n.ev hH, n.hr hH (by simp), n.fr hH hF, ?_⟩
        generalize w.alloc _ = w2 at n ⊢
        have hat := n.at_new
        refine list_of_rows (b := w.heap.size) (off := 0) (f2.mono (n.ev hH).mono) (by omega) (Nat.le_refl _) (fun k hk => ?_) rfl
        rw [f3] at hk
        refine ⟨by rw [n.st]; simp; exact hk, ?_⟩
        simp only [World.cell?, hat, Option.isSome_none, Bool.false_eq_true, if_false, Nat.zero_add]
        rw [Array.getElem?_toList]
      · cases he
    · cases he
end
end Go.Ve

/- VE: every operation. -/
namespace Go.Ve
open Go

section
variable {P : Program} {w : World} {g : Gh} {h : H} {fr : List (Nat × AV)} {ob : List (Nat × Nat)} {a : Act}

/-! ### what a struct is built of -/
theorem copyCell_fix (c : AV) : c.copyCell.copyCell = c.copyCell := by
  cases c with
  | list rows o => cases o <;> rfl
  | _ => rfl
theorem ofCell_fix (v : Value) : (AV.ofCell v).copyCell = AV.ofCell v := by
  unfold AV.ofCell
  split <;> rfl
theorem ofVal_fix (v : Value) : ∀ c ∈ (AV.ofVal v).cells, c.copyCell = c := by
  intro c hc
  unfold AV.ofVal at hc
  split at hc
  · simp only [AV.cells, List.mem_map] at hc
    obtain ⟨x, _, rfl⟩ := hc
    exact ofCell_fix x
  · rename_i hna
    have : (AV.ofCell v).cells = [AV.ofCell v] := by
      unfold AV.ofCell
      split <;> rfl
    rw [this] at hc
    simp at hc
    subst hc
    exact ofCell_fix v
theorem copy_fix (x : AV) (h : x.copy.cells.all AV.one = true) : ∀ c ∈ x.copy.cells, c.copyCell = c := by
  intro c hc
  cases x with
  | agg cs =>
    simp only [AV.copy, AV.copyAgg, AV.cells, List.mem_map] at hc
    obtain ⟨x, _, rfl⟩ := hc
    exact copyCell_fix x
  | tuple vs => simp [AV.copy, AV.cells, AV.one] at h
  | list rows o => cases o <;> (simp [AV.copy, AV.copyAgg, AV.copyCell, AV.cells] at hc; subst hc; rfl)
  | _ => simp [AV.copy, AV.copyAgg, AV.copyCell, AV.cells] at hc; subst hc; rfl

theorem mkAgg_fix : ∀ (parts : List (Nat × Nat × AV)) (z : List AV) (r : AV), (∀ c ∈ z, c.copyCell = c) → (∀ p ∈ parts, ∃ x : AV, p.2.2 = x.copy) → mkAgg z parts = some r → r.copy = r := by
  have main : ∀ (parts : List (Nat × Nat × AV)) (z r : List AV), (∀ c ∈ z, c.copyCell = c) → (∀ p ∈ parts, ∃ x : AV, p.2.2 = x.copy) →
      parts.foldlM (fun cells p => if p.2.2.cells.length = p.2.1 ∧ p.2.2.cells.all AV.one = true ∧ p.1 + p.2.1 ≤ cells.length then some (cells.take p.1 ++ p.2.2.cells ++ cells.drop (p.1 + p.2.1)) else none) z = some r → ∀ c ∈ r, c.copyCell = c := by
    intro parts
    induction parts with
    | nil => intro z r hz _ h; simp at h; subst h; exact hz
    | cons p ps ih =>
      intro z r hz hp h
      simp only [List.foldlM_cons, Option.bind_eq_bind, Option.bind_eq_some_iff] at h
      obtain ⟨z', hz', h⟩ := h
      split at hz'
      · rename_i hc
        cases hz'
        refine ih _ r (fun c hm => ?_) (fun q hq => hp q (by simp [hq])) h
        obtain ⟨x, hx⟩ := hp p (by simp)
        rcases List.mem_append.1 hm with hm | hm
        · rcases List.mem_append.1 hm with hm | hm
          · exact hz c (List.mem_of_mem_take hm)
          · have := hc.2.1
            rw [hx] at this hm
            exact copy_fix x this c hm
        · exact hz c (List.mem_of_mem_drop hm)
      · cases hz'
  intro parts z r hz hp h
  simp only [mkAgg, Option.map_eq_some_iff] at h
  obtain ⟨rs, h1, rfl⟩ := h
  have := main parts z rs hz hp h1
  simp only [AV.copy, AV.copyAgg]
  congr 1
  calc rs.map AV.copyCell = rs.map id := List.map_congr_left (fun c hc => this c hc)
    _ = rs := List.map_id rs

theorem build_fix {t : TypeId} {ps : List (Nat × AV)} {r : AV} (hp : ∀ p ∈ ps, ∃ x : AV, p.2 = x.copy) (h : build P t ps = some r) : r.copy = r := by
  unfold build at h
  split at h
  · rename_i z fs hz hu
    split at h
    · refine mkAgg_fix _ _ r ?_ ?_ h
      · simp only [zero, Option.map_eq_some_iff] at hz
        obtain ⟨v, _, rfl⟩ := hz
        exact ofVal_fix v
      · intro p hm
        obtain ⟨q, hq, rfl⟩ := List.mem_map.1 hm
        exact hp q hq
    · cases h
  · rename_i z n e hz hu
    split at h
    · refine mkAgg_fix _ _ r ?_ ?_ h
      · simp only [zero, Option.map_eq_some_iff] at hz
        obtain ⟨v, _, rfl⟩ := hz
        exact ofVal_fix v
      · intro p hm
        obtain ⟨q, hq, rfl⟩ := List.mem_map.1 hm
        exact hp q hq
    · cases h
  · cases h

theorem convert_fix {src dst : TypeId} {x r : AV} (h : convert P src dst h x = some r) (hq : ¬ ∃ e, P.underlying src = some .string ∧ P.underlying dst = some (.slice e)) : r.copy = r := by
  unfold convert at h
  split at h
  · unfold cvInt at h; split at h <;> cases h; rfl
  · unfold cvStr at h; split at h <;> cases h; rfl
  · rename_i e hs hd; exact absurd ⟨e, hs, hd⟩ hq
  · split at h
    · unfold bytesStr at h
      split at h
      · simp only [Option.map_eq_some_iff] at h; obtain ⟨bs, _, rfl⟩ := h; rfl
      · split at h
        · split at h
          · simp only [Option.map_eq_some_iff] at h; obtain ⟨bs, _, rfl⟩ := h; rfl
          · cases h
        · cases h
      · cases h
    · cases h
  · cases h

/-- A value that holds no room may be anywhere. -/
theorem OpOk.read_full {o : Oper} {v : AV} {u : Value} {m : Nat} (hH : HR w g h) (hF : FR w g fr ob a.tmps) (h1 : (execOp a.eval o).run P w = .ok (.value u) w) (h2 : Rep w g wh0 v u) (hc : v.copy = v) : OpOk P a o fr ob m v h w g := by
  refine ⟨_, u, w, g, h1, .inl rfl, .refl w g, hH, hF, ?_⟩
  rw [← hc]
  exact h2.copy

theorem op_val (hH : HR w g h) (hF : FR w g fr ob a.tmps) {A : FAnn} {r i : Nat} {o : Oper} {v : AV} (hdr : A.drawn = false ∨ ∀ t, o.op ≠ .alloc t) (hk : kindOf A r i o.op = .val) (he : valOp P A r i fr ob h o.op = some v) :
    OpOk P a o fr (offOf A r i ob o.op) (maskOf A r i ob o.op) v h w g := by
  have hFe := fun x => hF.eval (a := a) x
  by_cases hr : reads A r i o.op = true
  · by_cases hq : ∃ src dst x e, o.op = .convert src dst x ∧ P.underlying src = some .string ∧ P.underlying dst = some (.slice e)
    · obtain ⟨src, dst, x, e, ho, hs, hd⟩ := hq
      rw [ho] at he
      simp only [valOp] at he
      have := bytes_ok (P := P) hH hF ho hs hd he
      rw [ho]
      exact this
    · have hq' : ∀ src dst x, o.op = .convert src dst x → ¬ ∃ e, P.underlying src = some .string ∧ P.underlying dst = some (.slice e) := fun src dst x ho ⟨e, h1, h2⟩ => hq ⟨src, dst, x, e, ho, h1, h2⟩
      obtain ⟨u, h1, h2⟩ := reads_sound (P := P) hH hFe hr hq' he
      have plain : offOf A r i ob o.op = ob → maskOf A r i ob o.op = 0 → OpOk P a o fr (offOf A r i ob o.op) (maskOf A r i ob o.op) v h w g := by
        intro e1 e2
        rw [e1, e2]
        exact .read hH hF h1 h2
      cases ho : o.op <;> rw [ho] at plain <;> try (first | exact plain rfl rfl | (rw [ho] at hr; simp [reads] at hr; done))
      case build t parts =>
        rw [ho] at he
        simp only [valOp] at he
        exact .read_full hH hF h1 h2 (build_fix (fun p hp => by
          obtain ⟨q, _, rfl⟩ := List.mem_map.1 hp
          exact ⟨_, rfl⟩) he)
      case load t x =>
        rw [ho] at hr
        simp only [reads, Bool.not_eq_true'] at hr
        exact plain rfl (by simp only [maskOf, hr]; rfl)
      case convert src dst x =>
        rw [ho] at he
        simp only [valOp] at he
        exact .read_full hH hF h1 h2 (convert_fix he (hq' _ _ _ ho))
      case call c =>
        rw [ho] at hr
        obtain ⟨callee, args, argTypes⟩ := c
        cases callee with
        | value f => simp [reads] at hr
        | invoke r m => simp [reads] at hr
        | builtin b => cases b <;> first | exact plain rfl rfl | simp [reads] at hr
  · cases ho : o.op <;> rw [ho] at hr he hk <;> simp only [reads, not_true_eq_false, not_false_eq_true] at hr <;> simp only [valOp, reduceCtorEq] at he
    case buildSlice t len parts => exact buildSlice_ok hH hF ho he
    case alloc t =>
      rcases hdr with hdr | hdr
      · rw [hdr] at he; cases he
      · exact absurd ho (hdr t)
    case load t x =>
      simp only [Bool.not_eq_true', Bool.not_eq_false] at hr
      simp only [kindOf, hr, if_true] at hk
      cases hk
    case extract x j =>
      have := extract_ok (P := P) hH hF (A := A) (r := r) (i := i) ho he
      rw [ho] at this
      exact this
    case call c =>
      obtain ⟨callee, args, argTypes⟩ := c
      cases callee with
      | value f => simp [kindOf] at hk
      | invoke r m => simp at he
      | builtin b =>
        cases b <;> first | (simp at hr; done) | (simp at he; done) | skip
        case append =>
          simp only at he
          split at he
          · rename_i x y t t2 hx ht
            split at he
            · rename_i e hel
              split at he
              · rename_i hk2
                have := append_ok (P := P) hH hF (A := A) (r := r) (i := i) ho rfl hx ht hel hk2 he
                simp only [offOf, hx, maskOf]
                exact this
              · cases he
            · cases he
          · cases he


theorem op_tot (hH : HR w g h) (hF : FR w g fr ob a.tmps) {A : FAnn} {r i : Nat} {o : Oper} {v : AV} (he : totOp P fr o.op = some v) : OpOk P a o fr (offOf A r i ob o.op) (maskOf A r i ob o.op) v h w g := by
  cases ho : o.op <;> rw [ho] at he <;> try (simp [totOp] at he; done)
  case move x => simp only [totOp, Option.some.injEq] at he; subst he; exact move_ok hH hF (.inl ho)
  case assign x => simp only [totOp, Option.some.injEq] at he; subst he; exact move_ok hH hF (.inr ho)
  case makeInterface t x => exact makeInterface_ok hH hF ho (by rw [ho]; exact he)
  case makeFunc f x y => exact makeFunc_ok hH hF ho (by rw [ho]; exact he)

theorem op_new (hH : HR w g h) (hF : FR w g fr ob a.tmps) {A : FAnn} {r i : Nat} {o : Oper} {p : AV × H} (he : newOp P h o.op = some p) : OpOk P a o fr (offOf A r i ob o.op) (maskOf A r i ob o.op) p.1 p.2 w g := by
  cases ho : o.op <;> rw [ho] at he <;> try (simp [newOp] at he; done)
  case alloc t => exact alloc_ok hH hF ho (by rw [ho]; exact he)
  case makeMap t rv =>
    cases rv with
    | none => simp only [newOp, Option.some.injEq] at he; subst he; exact makeMap_ok hH hF ho
    | some x => simp [newOp] at he

theorem op_heap (hH : HR w g h) (hF : FR w g fr ob a.tmps) {A : FAnn} {r i : Nat} {o : Oper} {p : AV × H} (hk : kindOf A r i o.op = .heap) (he : heapOp P A r i fr ob h o.op = some p) :
    OpOk P a o fr (offOf A r i ob o.op) (maskOf A r i ob o.op) p.1 p.2 w g := by
  cases ho : o.op <;> rw [ho] at he hk <;> simp only [heapOp, reduceCtorEq] at he
  case box t x => exact box_ok hH hF ho he
  case store t y x => exact store_ok hH hF ho he
  case makeSlice t l c => exact makeSlice_ok hH hF ho he
  case mapUpdate t m k x => exact mapUpdate_ok hH hF (.inl ho) he
  case insert t m k x => exact mapUpdate_ok hH hF (.inr ho) he
  case range t x =>
    split at he
    · rename_i hu
      exact range_ok hH hF ho hu he
    · cases he
  case next y s => exact next_ok hH hF ho he
  case load t x =>
    simp only [kindOf] at hk
    split at hk
    · rename_i hl
      split at he
      · rename_i hc
        have := ldTake_ok (P := P) hH hF ho hc he
        have e : maskOf A r i ob (.load t x) = full := by simp only [maskOf, hl]; rfl
        rw [e]
        exact this
      · cases he
    · cases hk

end
end Go.Ve
