/- VE: a region. -/
import Derived.Test.YtdlnkfghgbddhaaGreatVa2
import Derived.Orders
set_option linter.all false

namespace Go.Ve
open Go

/-- What a call leaves behind, seen from who calls. -/
def CPost (w : World) (g : Gh) (r : AEnd × H) : Ending → World → Prop
  | .returned u, w' => ∃ v g', r.1 = .ret v ∧ Ev w g w' g' ∧ HR w' g' r.2 ∧ (∀ t p c, Keeps w g w' g' (.tmp t p c) (.tmp t p c)) ∧ Rep w' g' (fun p c => some (.res p c)) v u
  | .panicked chain, w' => ∃ v u g', r.1 = .pan v ∧ chain = [{ v := u, recovered := false }] ∧ Ev w g w' g' ∧ HR w' g' r.2 ∧ (∀ t p c, Keeps w g w' g' (.tmp t p c) (.tmp t p c)) ∧ Rep w' g' wh0 v u
  | .outgrown, _ => False

/-- A function called by its number: it is entered, or it is done on the spot. -/
def Callee (P : Program) (f : FuncId) (args : Array Value) (w : World) (R : Ending → World → Prop) : Prop :=
  ((callFunc f args).run P w = .ok (.enter f args) w ∧ Calls P f args w R) ∨ ∃ u w', (callFunc f args).run P w = .ok (.value u) w' ∧ R (.returned u) w'

def ArgsRep (w : World) (g : Gh) (args : List AV) (vals : Array Value) : Prop := vals.size = args.length ∧ ∀ (j : Nat) x v, args[j]? = some x → vals[j]? = some v → Rep w g wh0 x v
def CallOk (P : Program) (call : Cl) : Prop := ∀ f args h r, call f args h = some r → ∀ (vals : Array Value) w g, HR w g h → ArgsRep w g args vals → Callee P f vals w (CPost w g r)

/-- A call that is put off. -/
def DefRep (w : World) (g : Gh) (d : ADef) (e : Deferred) : Prop := ∃ cap, e.target = .fn (.func d.f) cap ∧ ArgsRep w g d.args (e.args ++ cap)
def DefsRep (w : World) (g : Gh) : List ADef → List Deferred → Prop
  | [], [] => True
  | d :: ds, e :: es => DefRep w g d e ∧ DefsRep w g ds es
  | _, _ => False
theorem ArgsRep.mono {w w' : World} {g g' : Gh} {args : List AV} {vals : Array Value} (ha : ArgsRep w g args vals) (m : Mono w g w' g') : ArgsRep w' g' args vals := ⟨ha.1, fun j x v hx hv => (ha.2 j x v hx hv).mono m Moves.none⟩
theorem DefsRep.mono {w w' : World} {g g' : Gh} (m : Mono w g w' g') : ∀ {ds : List ADef} {es : List Deferred}, DefsRep w g ds es → DefsRep w' g' ds es
  | [], [], _ => trivial
  | _ :: _, _ :: _, ⟨⟨cap, h1, h2⟩, h3⟩ => ⟨⟨cap, h1, h2.mono m⟩, h3.mono m⟩
  | [], _ :: _, h => h.elim
  | _ :: _, [], h => h.elim

/-- A state stands for an activation. -/
structure M (nt : Nat) (s : St) (a : Act) (w : World) (g : Gh) : Prop where
  fr : FR w g s.fr s.ob a.tmps
  hr : HR w g s.h
  size : nt ≤ a.tmps.size
  df : DefsRep w g s.ds a.defers

/-- How a piece of code ends. -/
def Post {R : Type} (k : K R) (res : R) (nt : Nat) (w0 : World) (g0 : Gh) : Exit → Act → World → Prop
  | .normal, a, w => ∃ s g, M nt s a w g ∧ Ev w0 g0 w g ∧ k.normal s = some res
  | .exit id, a, w => ∃ s g, M nt s a w g ∧ Ev w0 g0 w g ∧ k.exit id s = some res
  | .ret, a, w => ∃ s g, M nt s a w g ∧ Ev w0 g0 w g ∧ k.ret s = some res
  | .panic chain, a, w => ∃ s g v u, M nt s a w g ∧ Ev w0 g0 w g ∧ chain = [{ v := u, recovered := false }] ∧ Rep w g wh0 v u ∧ k.pan v s = some res
  | .goto _, _, _ => False
  | .outgrown, _, _ => False

section
variable {P : Program} {w : World} {g : Gh} {h : H} {fr : List (Nat × AV)} {ob : List (Nat × Nat)} {a : Act}

theorem getM_off {A : FAnn} {r i : Nat} {op : Op} {t p : Nat} (h : (getM t (offOf A r i ob op)).testBit p = true) : (getM t ob).testBit p = true := by
  have key : ∀ x : Operand, (getM t (obOff A r i ob x)).testBit p = true → (getM t ob).testBit p = true := by
    intro x hx
    cases x with
    | tmp t' =>
      simp only [obOff] at hx
      cases hb : A.takes r i t' with
      | false => rw [hb] at hx; exact hx
      | true =>
        rw [hb] at hx
        simp only [cond_true, getM] at hx
        cases hb2 : Nat.beq t' t with
        | true => rw [hb2] at hx; simp at hx
        | false => rw [hb2] at hx; exact hx
    | _ => exact hx
  unfold offOf at h
  split at h
  · exact key _ h
  · exact key _ h
  · exact key _ h
  · exact key _ h
  · split at h
    · exact key _ h
    · exact h
  · rename_i t' j
    simp only [strict_eq, getM] at h
    cases hb2 : Nat.beq t' t with
    | false => rw [hb2] at h; exact h
    | true =>
      have := Nat.eq_of_beq_eq_true hb2
      subst this
      rw [hb2] at h
      simp only [cond_true] at h
      cases hm : (getM t' ob).testBit j with
      | false => rw [hm] at h; exact h
      | true =>
        rw [hm] at h
        simp only [cond_true] at h
        have h' : (getM t' ob ^^^ (1 <<< j)).testBit p = true := h
        rw [Nat.testBit_xor, Nat.one_shiftLeft, Nat.testBit_two_pow] at h'
        by_cases e : j = p
        · subst e; exact hm
        · simpa [e] using h'
  · exact h

/-- An operation that is not done. -/
theorem FR.skip (hF : FR w g fr ob a.tmps) (A : FAnn) (r i : Nat) (op : Op) : FR w g fr (offOf A r i ob op) a.tmps :=
  hF.mono (.refl w g) fun _ _ _ hb => ⟨getM_off hb, fun _ hb => ⟨hb, rfl, fun _ h => h⟩⟩

theorem guard_of {ops : Array Oper} {fr : List (Nat × AV)} {o : Oper} {j : Nat} {want : Bool} (hg : o.guard = some (j, want)) {t : Tmp} (ht : ((ops.toList[j]?).bind (·.dst)) = some t) (hF : FR w g fr ob a.tmps) :
    (∀ b, getV t fr = .bool b → Region.wanted o (yielded ops a.tmps) = (b == want)) ∧ (getV t fr = .tuple [] → Region.wanted o (yielded ops a.tmps) = false) := by
  have hr := hF t
  rw [Array.getElem?_toList] at ht
  refine ⟨fun b hb => ?_, fun hb => ?_⟩
  · rw [hb] at hr
    generalize hu : a.tmps.getD t undef = u at hr
    cases hr
    have : a.tmps[t]? = some (.bool b) := by
      rw [Array.getD_eq_getD_getElem?] at hu
      cases hx : a.tmps[t]? with
      | none => rw [hx] at hu; simp [undef] at hu
      | some y => rw [hx] at hu; simp at hu; rw [hu]
    simp only [Region.wanted, hg, yielded, ht, Option.bind_some, this]
    try (cases b <;> cases want <;> rfl)
  · rw [hb] at hr
    generalize hu : a.tmps.getD t undef = u at hr
    cases hr with
    | @tuple _ _ vs h1 h2 =>
      have : ∀ b, a.tmps[t]? ≠ some (.bool b) := by
        intro b hx
        rw [Array.getD_eq_getD_getElem?, hx] at hu
        simp at hu
      have hy : yielded ops a.tmps j = none := by
        simp only [yielded, ht, Option.bind_some]
        try (split
             · rename_i b hx; exact absurd hx (this b)
             · rfl)
      simp [Region.wanted, hg, hy]

/-- A guarded operation: it is done, or it is passed by. -/
theorem gated_cases {α : Type} {ops : Array Oper} {fr : List (Nat × AV)} {o : Oper} {x : Option α} {y z : α} (he : gated ops.toList fr o x y = some z) (hF : FR w g fr ob a.tmps) :
    (Region.wanted o (yielded ops a.tmps) = true ∧ x = some z) ∨ (Region.wanted o (yielded ops a.tmps) = false ∧ z = y) := by
  unfold gated at he
  split at he
  · rename_i hg
    exact .inl ⟨by simp [Region.wanted, hg], he⟩
  · rename_i j want hg
    split at he
    · rename_i t ht
      obtain ⟨h1, h2⟩ := guard_of (ops := ops) hg ht hF
      unfold gate at he
      split at he
      · rename_i b hb
        have := h1 b hb
        split at he
        · rename_i hbw
          exact .inl ⟨by rw [this, hbw]; simp, he⟩
        · rename_i hbw
          cases he
          exact .inr ⟨by rw [this]; simpa using hbw, rfl⟩
      · rename_i hb
        cases he
        exact .inr ⟨h2 hb, rfl⟩
      · cases he
    · cases he

theorem undef_rep {wh : Wh} : Rep w g wh (.tuple []) undef := .tuple rfl (by simp)

/-- One operation, done as OpOk says. -/
theorem wp_opOk {o : Oper} {ob' : List (Nat × Nat)} {m : Nat} {v : AV} {h' : H} {nt : Nat} {next : Act → World → Prop} {Q : Exit → Act → World → Prop} (hk : OpOk P a o fr ob' m v h' w g) (hn : nt ≤ a.tmps.size)
    (hnext : ∀ (a' : Act) w' g', FR w' g' (putV nt o.dst v fr) (putM o.dst m ob') a'.tmps → HR w' g' h' → Ev w g w' g' → nt ≤ a'.tmps.size → a'.defers = a.defers → next a' w') : o.wp P a w next Q := by
  obtain ⟨n, u, w', g', h1, h2, h3, h4, h5, h6⟩ := hk
  have hp := h5.put hn h6
  unfold Oper.wp
  rw [h1]
  rcases h2 with rfl | ⟨rfl, rfl⟩
  · exact hnext _ w' g' hp h4 h3 (by rw [put_size]; exact hn) put_defers
  · exact hnext _ w' g' hp h4 h3 (by rw [put_size]; exact hn) put_defers


theorem ArgsRep.append {xs ys : List AV} {us vs : Array Value} (h1 : ArgsRep w g xs us) (h2 : ArgsRep w g ys vs) : ArgsRep w g (xs ++ ys) (us ++ vs) := by
  refine ⟨by simp [h1.1, h2.1], fun j x v hx hv => ?_⟩
  by_cases hl : j < xs.length
  · rw [List.getElem?_append_left hl] at hx
    rw [Array.getElem?_append_left (by rw [h1.1]; exact hl)] at hv
    exact h1.2 j x v hx hv
  · rw [List.getElem?_append_right (by omega)] at hx
    rw [Array.getElem?_append_right (by rw [h1.1]; omega), h1.1] at hv
    exact h2.2 _ x v hx hv

theorem args_rep (hF : FR w g fr ob a.tmps) (A : FAnn) (f : Operand) (args : Array Operand) : ArgsRep w g (callArgs A f fr args) (args.map a.eval) := by
  have key : ∀ (q : AV → AV), (∀ y, Rep w g wh0 (q (vOf fr y)) (a.eval y)) → ArgsRep w g (args.toList.map fun x => q (vOf fr x)) (args.map a.eval) := by
    intro q hq
    refine ⟨by simp, fun j x v hx hv => ?_⟩
    simp only [List.getElem?_map, Option.map_eq_some_iff, Array.getElem?_map, Array.getElem?_toList] at hx hv
    obtain ⟨y, hy, rfl⟩ := hx
    obtain ⟨y', hy', rfl⟩ := hv
    rw [hy] at hy'
    cases hy'
    exact hq y
  unfold callArgs
  cases isRaw A f with
  | true => exact key AV.copy fun y => (hF.eval (a := a) y).copy
  | false => exact key AV.canon fun y => (hF.eval (a := a) y).canon

theorem wp_call {A : FAnn} {call : Cl} (hcall : CallOk P call) (hH : HR w g h) (hF : FR w g fr ob a.tmps) {o : Oper} {c : Call} {f : Operand} (ho : o.op = .call c) (hc : c.callee = .value f) {p : AEnd × H} (he : callVal call h (vOf fr f) (callArgs A f fr c.args) = some p)
    {nt : Nat} (hn : nt ≤ a.tmps.size) {next : Act → World → Prop} {Q : Exit → Act → World → Prop}
    (hnext : ∀ (a' : Act) w' g' v, p.1 = .ret v → FR w' g' (putV nt o.dst v fr) (putM o.dst full ob) a'.tmps → HR w' g' p.2 → Ev w g w' g' → nt ≤ a'.tmps.size → a'.defers = a.defers → next a' w')
    (hpan : ∀ w' g' v u, p.1 = .pan v → FR w' g' fr ob a.tmps → HR w' g' p.2 → Ev w g w' g' → Rep w' g' wh0 v u → Q (.panic [{ v := u, recovered := false }]) a w') : o.wp P a w next Q := by
  unfold callVal at he
  split at he
  · rename_i gid first captured hvf
    have hfr := hF.eval (a := a) f
    rw [hvf] at hfr
    generalize huf : a.eval f = uf at hfr
    cases hfr with
    | @func _ _ _ _ fs cs s1 s2 r1 r2 =>
      have hargs : ArgsRep w g (first ++ (callArgs A f fr c.args) ++ captured) (fs ++ c.args.map a.eval ++ cs) :=
        (ArgsRep.append ⟨s1, r1⟩ (args_rep hF A f c.args)).append ⟨s2, r2⟩
      have hrun : (execOp a.eval o).run P w = (callFunc gid (fs ++ c.args.map a.eval ++ cs)).run P w := by
        simp [execOp, ho, resolve, hc, huf, Deferred.ofValue, invoke]
      have ret : ∀ u w', CPost w g p (.returned u) w' → next (a.put o.dst u) w' := by
        rintro u w' ⟨v, g', e1, ev, hH', keep, hr⟩
        have hF' : FR w' g' fr ob a.tmps := hF.mono ev.mono fun t p c hb => ⟨hb, keep t p c⟩
        have tn := toDst_turn o.dst
        have hF2 := tn.fr (ob' := ob) hF' (fun t p c hb => ⟨hb, rfl⟩)
        refine hnext _ w' _ v e1 (hF2.put hn (tn.rep hr ?_)) (tn.hr hH') (ev.trans tn.ev) (by rw [put_size]; exact hn) put_defers
        intro p c l' hl
        unfold whD at hl
        cases hd : o.dst with
        | none => rw [hd] at hl; cases hl
        | some d =>
          rw [hd] at hl
          simp only at hl
          split at hl
          · cases hl
            exact ⟨.res p c, rfl, by simp [toDst]⟩
          · cases hl
      unfold Oper.wp
      rw [hrun]
      rcases hcall _ _ _ _ he _ w g hH hargs with ⟨h1, h2⟩ | ⟨u, w', h1, h2⟩
      · rw [h1]
        refine h2.mono fun e w' hp => ?_
        cases e with
        | returned u => exact ret u w' hp
        | panicked chain =>
          obtain ⟨v, u, g', e1, rfl, ev, hH', keep, hr⟩ := hp
          exact hpan w' g' v u e1 (hF.mono ev.mono fun t p c hb => ⟨hb, keep t p c⟩) hH' ev hr
        | outgrown => exact hp.elim
      · rw [h1]
        exact ret u w' h2
  · cases he

/-- A region's operations, in any order that is told. -/
theorem region_sound {R : Type} {call : Cl} (hcall : CallOk P call) {A : FAnn} (hdr : A.drawn = false) {r : Nat} {ops : Array Oper} {k : K R} {res : R} : ∀ (l : List Nat) (fr : List (Nat × AV)) (ob : List (Nat × Nat)) (ds : List ADef) (h : H) (a : Act) (w : World) (g : Gh) (w0 : World) (g0 : Gh),
    region P A call r ops.toList k (l.filterMap fun i => (ops[i]?).map fun o => (i, o)) fr ob ds h = some res → FR w g fr ob a.tmps → HR w g h → A.nt ≤ a.tmps.size → DefsRep w g ds a.defers → Ev w0 g0 w g → wpOps P ops (Post k res A.nt w0 g0) l a w
  | [], fr, ob, ds, h, a, w, g, w0, g0, he, hF, hH, hn, hd, ev => ⟨⟨fr, ob, ds, h⟩, g, ⟨hF, hH, hn, hd⟩, ev, he⟩
  | i :: l, fr, ob, ds, h, a, w, g, w0, g0, he, hF, hH, hn, hd, ev => by
    unfold wpOps
    cases hio : ops[i]? with
    | none =>
      simp only [List.filterMap_cons, hio, Option.map_none] at he
      exact region_sound hcall hdr l fr ob ds h a w g w0 g0 he hF hH hn hd ev
    | some o =>
      simp only [List.filterMap_cons, hio, Option.map_some] at he
      unfold region at he
      have skip : ∀ {m : Nat} {h' : H}, h' = h → region P A call r ops.toList k (l.filterMap fun i => (ops[i]?).map fun o => (i, o)) (putV A.nt o.dst (.tuple []) fr) (putM o.dst m (offOf A r i ob o.op)) ds h' = some res →
          wpOps P ops (Post k res A.nt w0 g0) l (a.put o.dst undef) w := by
        rintro m h' rfl he
        exact region_sound hcall hdr l _ _ _ _ _ w g w0 g0 he ((hF.skip A r i o.op).put hn undef_rep) hH (by rw [put_size]; exact hn) (by rw [put_defers]; exact hd) ev
      have done : ∀ {m : Nat} {v : AV} {h' : H}, OpOk P a o fr (offOf A r i ob o.op) m v h' w g → region P A call r ops.toList k (l.filterMap fun i => (ops[i]?).map fun o => (i, o)) (putV A.nt o.dst v fr) (putM o.dst m (offOf A r i ob o.op)) ds h' = some res →
          o.wp P a w (wpOps P ops (Post k res A.nt w0 g0) l) (Post k res A.nt w0 g0) := by
        intro m v h' hk he
        exact wp_opOk hk hn fun a' w' g' f1 f2 f3 f4 f5 => region_sound hcall hdr l _ _ _ _ a' w' g' w0 g0 he f1 f2 f4 (by rw [f5]; exact hd.mono f3.mono) (ev.trans f3)
      simp only
      have split2 : ∀ {want : Bool}, Region.wanted o (yielded ops a.tmps) = want → (want = true → o.wp P a w (wpOps P ops (Post k res A.nt w0 g0) l) (Post k res A.nt w0 g0)) → (want = false → wpOps P ops (Post k res A.nt w0 g0) l (a.put o.dst undef) w) →
          (if Region.wanted o (yielded ops a.tmps) = true then o.wp P a w (wpOps P ops (Post k res A.nt w0 g0) l) (Post k res A.nt w0 g0) ∨ (o.asks P a w ∧ LetsOut (Post k res A.nt w0 g0)) else wpOps P ops (Post k res A.nt w0 g0) l (a.put o.dst undef) w) := by
        intro want hw h1 h2
        rw [hw]
        cases want with
        | true => rw [if_pos rfl]; exact .inl (h1 rfl)
        | false => rw [if_neg (by simp)]; exact h2 rfl
      split at he
      · -- a value that is always made
        rename_i hk
        split at he
        · rename_i v hg hv
          rw [strict_eq] at he
          exact split2 (want := true) (by simp [Region.wanted, hg]) (fun _ => done (op_tot hH hF hv) he) (by simp)
        · simp only [Option.bind_eq_some_iff] at he
          obtain ⟨v, hv, he⟩ := he
          rw [strict_eq] at he
          rcases gated_cases hv hF with ⟨hw, hx⟩ | ⟨hw, rfl⟩
          · exact split2 hw (fun _ => done (op_tot hH hF hx) he) (by simp)
          · exact split2 hw (by simp) (fun _ => skip rfl he)
        · cases he
      · rename_i hk
        split at he
        · rename_i p hg hp
          rw [strict_eq] at he
          exact split2 (want := true) (by simp [Region.wanted, hg]) (fun _ => done (op_new hH hF hp) he) (by simp)
        · simp only [Option.bind_eq_some_iff] at he
          obtain ⟨p, hp, he⟩ := he
          rw [strict_eq] at he
          rcases gated_cases hp hF with ⟨hw, hx⟩ | ⟨hw, rfl⟩
          · exact split2 hw (fun _ => done (op_new hH hF hx) he) (by simp)
          · exact split2 hw (by simp) (fun _ => skip rfl he)
        · cases he
      · rename_i hk
        simp only [Option.bind_eq_some_iff] at he
        obtain ⟨v, hv, he⟩ := he
        rw [strict_eq] at he
        rcases gated_cases hv hF with ⟨hw, hx⟩ | ⟨hw, rfl⟩
        · exact split2 hw (fun _ => done (op_val hH hF (.inl hdr) hk hx) he) (by simp)
        · exact split2 hw (by simp) (fun _ => skip rfl he)
      · rename_i hk
        simp only [Option.bind_eq_some_iff] at he
        obtain ⟨p, hp, he⟩ := he
        rw [strict_eq] at he
        rcases gated_cases hp hF with ⟨hw, hx⟩ | ⟨hw, rfl⟩
        · exact split2 hw (fun _ => done (op_heap hH hF hk hx) he) (by simp)
        · exact split2 hw (by simp) (fun _ => skip rfl he)
      · rename_i f args hk
        simp only [Option.bind_eq_some_iff] at he
        obtain ⟨p, hp, he⟩ := he
        obtain ⟨c, ho, hc, hca⟩ : ∃ c : Call, o.op = .call c ∧ c.callee = .value f ∧ c.args = args := by
          unfold kindOf at hk
          split at hk <;> first | (cases hk; done) | skip
          · split at hk <;> cases hk
          · split at hk <;> cases hk
          · rename_i hoo
            cases hk
            exact ⟨_, hoo, rfl, rfl⟩
        have off : offOf A r i ob o.op = ob := by
          rw [ho]
          obtain ⟨callee, args', tys⟩ := c
          simp only at hc
          subst hc
          rfl
        rcases gated_cases hp hF with ⟨hw, hx⟩ | ⟨hw, rfl⟩
        · refine split2 hw (fun _ => ?_) (by simp)
          rw [← hca] at hx
          refine wp_call hcall hH hF ho hc hx hn (fun a' w' g' v e1 f1 f2 f3 f4 f5 => ?_) (fun w' g' v u e1 f1 f2 f3 f4 => ?_)
          · rw [e1] at he
            exact region_sound hcall hdr l _ _ _ _ a' w' g' w0 g0 he f1 f2 f4 (by rw [f5]; exact hd.mono f3.mono) (ev.trans f3)
          · rw [e1] at he
            exact ⟨_, g', v, u, ⟨f1, f2, hn, hd.mono f3.mono⟩, ev.trans f3, rfl, f4, he⟩
        · refine split2 hw (by simp) (fun _ => ?_)
          rw [← off] at he
          exact skip rfl he
      · rename_i x hk
        cases hg : o.guard with
        | some q => rw [hg] at he; simp at he
        | none =>
          rw [hg] at he
          simp only [Option.isNone_none, cond_true] at he
          have ho : o.op = .panic x := by
            unfold kindOf at hk
            split at hk <;> first | (cases hk; done) | skip
            · split at hk <;> cases hk
            · split at hk <;> cases hk
            · rename_i hoo
              cases hk
              exact hoo
          refine split2 (want := true) (by simp [Region.wanted, hg]) (fun _ => ?_) (by simp)
          unfold panOr at he
          split at he
          · rename_i t y hx
            have hr := hF.eval (a := a) x
            rw [hx] at hr
            generalize hu : a.eval x = u at hr
            cases hr with
            | iface hr =>
              unfold Oper.wp
              rename_i y'
              have : (execOp a.eval o).run P w = .halt (.panic (.iface t y')) w := by
                simp [execOp, ho, hu, Instr.panic, goPanic]
              rw [this]
              exact ⟨_, g, .iface t y.copy, _, ⟨hF, hH, hn, hd⟩, ev, rfl, .iface hr.copy, he⟩
          · cases he
      · rename_i f args hk
        cases hg : o.guard with
        | some q => rw [hg] at he; simp at he
        | none =>
          rw [hg] at he
          simp only [Option.isNone_none, cond_true, Option.bind_eq_some_iff] at he
          obtain ⟨d, hde, he⟩ := he
          obtain ⟨c, ho, hc, hca⟩ : ∃ c : Call, o.op = .defer c ∧ c.callee = .value f ∧ c.args = args := by
            unfold kindOf at hk
            split at hk <;> first | (cases hk; done) | skip
            · split at hk <;> cases hk
            · split at hk <;> cases hk
            · rename_i hoo
              cases hk
              exact ⟨_, hoo, rfl, rfl⟩
          refine split2 (want := true) (by simp [Region.wanted, hg]) (fun _ => ?_) (by simp)
          unfold deferA at hde
          split at hde
          · rename_i gid first captured hvf
            cases hde
            have hfr := hF.eval (a := a) f
            rw [hvf] at hfr
            generalize huf : a.eval f = uf at hfr
            cases hfr with
            | @func _ _ _ _ fs cs s1 s2 r1 r2 =>
              have hargs : ArgsRep w g (first ++ (callArgs A f fr c.args) ++ captured) (fs ++ c.args.map a.eval ++ cs) :=
                (ArgsRep.append ⟨s1, r1⟩ (args_rep hF A f c.args)).append ⟨s2, r2⟩
              rw [hca] at hargs
              have hrun : (execOp a.eval o).run P w = .ok (.defer { target := .fn (.func gid) cs, args := fs ++ c.args.map a.eval }) w := by
                simp [execOp, ho, resolve, hc, huf, Deferred.ofValue]
              unfold Oper.wp
              rw [hrun]
              have et : (Act.put { a with defers := { target := .fn (.func gid) cs, args := fs ++ c.args.map a.eval } :: a.defers } o.dst undef).tmps = (a.put o.dst undef).tmps := by cases o.dst <;> rfl
              refine region_sound hcall hdr l _ _ _ _ _ w g w0 g0 he ?_ hH ?_ ?_ ev
              · rw [et]; exact hF.put hn .undef
              · rw [et, put_size]; exact hn
              · have hds : (Act.put { a with defers := { target := .fn (.func gid) cs, args := fs ++ c.args.map a.eval } :: a.defers } o.dst undef).defers = { target := .fn (.func gid) cs, args := fs ++ c.args.map a.eval } :: a.defers := put_defers
                rw [hds]
                exact ⟨⟨cs, rfl, by rw [hca]; exact hargs⟩, hd⟩
          · cases hde

end
end Go.Ve

/- VE: what an operation looks at. -/
namespace Go.Ve
open Go

def Like (l : List Nat) (fr fr' : List (Nat × AV)) : Prop := ∀ t ∈ l, getV t fr = getV t fr'

section
variable {P : Program} {A : FAnn} {r i : Nat} {fr fr' : List (Nat × AV)} {ob ob' : List (Nat × Nat)} {h : H}

theorem vOf_like {op : Op} (hl : Like (opTmps op) fr fr') {x : Operand} (hx : x ∈ op.operands) : vOf fr x = vOf fr' x := by
  cases x with
  | tmp t => exact hl t (List.mem_filterMap.2 ⟨.tmp t, by simpa using hx, rfl⟩)
  | _ => rfl

/-- Operations whose value rests on what they read alone. -/
def plainOp : Op → Bool
  | .call { callee := .builtin .append, .. } => false
  | _ => true

theorem valOp_like {op : Op} (hp : plainOp op = true) (hl : Like (opTmps op) fr fr') : valOp P A r i fr ob h op = valOp P A r i fr' ob' h op := by
  have v := fun {x} hx => vOf_like (op := op) hl (x := x) hx
  have ml : ∀ {x : Option Operand}, (∀ y, x = some y → y ∈ op.operands) → x.map (vOf fr) = x.map (vOf fr') := by
    intro x hx
    cases x with
    | none => rfl
    | some y => simp [v (hx y rfl)]
  cases op <;> try rfl
  case pick c a b => simp [valOp, v (x := c) (by simp [Op.operands]), v (x := a) (by simp [Op.operands]), v (x := b) (by simp [Op.operands])]
  case build t ps =>
    simp only [valOp]
    congr 1
    exact List.map_congr_left fun p hp => by rw [v (x := p.2) (by simp [Op.operands]; exact ⟨p.1, by simpa using hp⟩)]
  case buildSlice t n ps =>
    simp only [valOp]
    congr 1
    exact List.map_congr_left fun p hp => by rw [v (x := p.2) (by simp [Op.operands]; exact ⟨p.1, by simpa using hp⟩)]
  case load t x => simp [valOp, v (x := x) (by simp [Op.operands])]
  case nilCheck x => simp [valOp, v (x := x) (by simp [Op.operands])]
  case binOp o t x y u => simp [valOp, v (x := x) (by simp [Op.operands]), v (x := y) (by simp [Op.operands])]
  case unOp o t x => simp [valOp, v (x := x) (by simp [Op.operands])]
  case convert s d x => simp [valOp, v (x := x) (by simp [Op.operands])]
  case slice t x lo hi mx =>
    simp only [valOp, v (x := x) (by simp [Op.operands]), ml (x := lo) (fun y hy => by simp [Op.operands, hy]), ml (x := hi) (fun y hy => by simp [Op.operands, hy]), ml (x := mx) (fun y hy => by simp [Op.operands, hy])]
  case fieldAddr t x f => simp [valOp, v (x := x) (by simp [Op.operands])]
  case field t x f => simp [valOp, v (x := x) (by simp [Op.operands])]
  case indexAddr t x y => simp [valOp, v (x := x) (by simp [Op.operands]), v (x := y) (by simp [Op.operands])]
  case index t x y => simp [valOp, v (x := x) (by simp [Op.operands]), v (x := y) (by simp [Op.operands])]
  case lookup t x y ok => simp [valOp, v (x := x) (by simp [Op.operands]), v (x := y) (by simp [Op.operands])]
  case typeAssert x a b ok => simp [valOp, v (x := x) (by simp [Op.operands])]
  case extract x j => simp [valOp, v (x := x) (by simp [Op.operands])]
  case call c =>
    obtain ⟨callee, args, tys⟩ := c
    cases callee with
    | value f => rfl
    | invoke r m => rfl
    | builtin b =>
      have am : args.toList.map (vOf fr) = args.toList.map (vOf fr') := List.map_congr_left fun x hx => v (by simp [Op.operands, Call.operands]; simpa using hx)
      cases b <;> first | rfl | (simp [plainOp] at hp; done) | skip
      case len =>
        simp only [valOp]
        split
        · rename_i x t hx ht
          rw [v (x := x) (by simp [Op.operands, Call.operands]; have : x ∈ args.toList := by rw [hx]; simp
                             simpa using this)]
        · rfl
      case max => simp only [valOp, am]
      case min => simp only [valOp, am]

theorem totOp_like {op : Op} (hl : Like (opTmps op) fr fr') : totOp P fr op = totOp P fr' op := by
  have v := fun {x} hx => vOf_like (op := op) hl (x := x) hx
  cases op <;> try rfl
  case move x => simp [totOp, v (x := x) (by simp [Op.operands])]
  case assign x => simp [totOp, v (x := x) (by simp [Op.operands])]
  case makeInterface t x => simp [totOp, v (x := x) (by simp [Op.operands])]
  case makeFunc f x y =>
    simp only [totOp]
    congr 2
    · exact List.map_congr_left fun z hz => by rw [v (x := z) (by simp [Op.operands]; exact .inl (by simpa using hz))]
    · exact List.map_congr_left fun z hz => by rw [v (x := z) (by simp [Op.operands]; exact .inr (by simpa using hz))]
end
end Go.Ve

/- VE: more objects do not disturb what is read. -/
namespace Go.Ve
open Go

section
variable {P : Program} {A : FAnn} {r i : Nat} {fr : List (Nat × AV)} {ob : List (Nat × Nat)} {h l : H}

theorem obj_more {id : Nat} {o : AObj} (he : h[id]? = some o) : (h ++ l)[id]? = some o := by
  rw [List.getElem?_append_left (List.getElem?_eq_some_iff.1 he).1, he]

theorem cellsAt_more {a : AV} {p : List AV × Nat} (he : cellsAt h a = some p) : cellsAt (h ++ l) a = some p := by
  unfold cellsAt at he ⊢
  split at he
  · exact he
  · split at he
    · rename_i cells ro hid
      rw [obj_more hid]
      exact he
    · cases he
  · cases he
theorem load_more {t : TypeId} {a v : AV} (he : load P t h a = some v) : load P t (h ++ l) a = some v := by
  unfold load at he ⊢
  split at he
  · rename_i hc
    rw [if_pos hc]
    simp only [ldAgg, Option.bind_eq_some_iff] at he ⊢
    obtain ⟨p, h1, h2⟩ := he
    exact ⟨p, cellsAt_more h1, h2⟩
  · rename_i hc
    rw [if_neg hc]
    split at he
    · rename_i hc2
      rw [if_pos hc2]
      simp only [ldCell, Option.bind_eq_some_iff] at he ⊢
      obtain ⟨p, h1, h2⟩ := he
      exact ⟨p, cellsAt_more h1, h2⟩
    · cases he
theorem bytesStr_more {a v : AV} (he : bytesStr h a = some v) : bytesStr (h ++ l) a = some v := by
  unfold bytesStr at he ⊢
  split at he
  · exact he
  · split at he
    · rename_i hid; simp only [obj_more hid]; exact he
    · cases he
  · cases he
theorem convert_more {s d : TypeId} {a v : AV} (he : convert P s d h a = some v) : convert P s d (h ++ l) a = some v := by
  unfold convert at he ⊢
  split at he <;> first | exact he | cases he | skip
  split at he
  · rename_i hc; rw [if_pos hc]; exact bytesStr_more he
  · cases he
theorem mapEs_more {a : AV} {es : List (AV × AV)} (he : mapEs h a = some es) : mapEs (h ++ l) a = some es := by
  unfold mapEs at he ⊢
  split at he
  · exact he
  · split at he
    · rename_i hid; simp only [obj_more hid]; exact he
    · cases he
  · cases he
theorem lookup_more {t : TypeId} {x ix v : AV} {ok : Bool} (he : lookup P t h x ix ok = some v) : lookup P t (h ++ l) x ix ok = some v := by
  unfold lookup at he ⊢
  split at he
  · split at he
    · unfold lkMap at he ⊢
      split at he
      · rename_i hk
        rw [if_pos hk]
        simp only [Option.bind_eq_some_iff] at he ⊢
        obtain ⟨es, h1, h2⟩ := he
        exact ⟨es, mapEs_more h1, h2⟩
      · cases he
    · cases he
  · cases he
theorem alen_more {t : TypeId} {x v : AV} (he : alen P t h x = some v) : alen P t (h ++ l) x = some v := by
  unfold alen at he ⊢
  split at he <;> first | exact he | cases he | skip
  unfold lnMap at he ⊢
  split at he
  · exact he
  · split at he
    · rename_i hid; simp only [obj_more hid]; exact he
    · cases he
  · cases he

theorem slotOp_more {id : Nat} {cs : List AV} {v : AV} (he : slotOp id cs h = some v) : slotOp id cs (h ++ l) = some v := by
  unfold slotOp at he ⊢
  split at he
  · rename_i hid
    simp only [obj_more hid]
    exact he
  · cases he
theorem valOp_more {op : Op} {v : AV} (hp : plainOp op = true) (he : valOp P A r i fr ob h op = some v) : valOp P A r i fr ob (h ++ l) op = some v := by
  cases op <;> try exact he
  case alloc t =>
    simp only [valOp] at he ⊢
    cases hd : A.drawn with
    | false => rw [hd] at he; cases he
    | true =>
      rw [hd] at he
      simp only [cond_true] at he ⊢
      split at he
      · rename_i n z hn hz
        cases hc : z.cells.all AV.one with
        | false => rw [hc] at he; cases he
        | true => rw [hc] at he; exact slotOp_more he
      · cases he
  case load t x => exact load_more he
  case convert s d x => exact convert_more he
  case lookup t x y ok => exact lookup_more he
  case call c =>
    obtain ⟨callee, args, tys⟩ := c
    cases callee with
    | value f => exact he
    | invoke r m => exact he
    | builtin b =>
      cases b <;> first | exact he | (simp [plainOp] at hp; done) | skip
      case len =>
        simp only [valOp] at he ⊢
        split at he
        · exact alen_more he
        · cases he
end
end Go.Ve

/- VE: regions whose order is drawn: what an operation rests on. -/
namespace Go.Ve
open Go

section
variable {P : Program} {A : FAnn} {r i : Nat} {fr fr' : List (Nat × AV)} {ob : List (Nat × Nat)} {h l : H} {call : Cl} {all : List Oper} {o : Oper}

theorem valOp_like' {op : Op} (hl : Like (opTmps op) fr fr') : valOp P A r i fr ob h op = valOp P A r i fr' ob h op := by
  by_cases hp : plainOp op = true
  · exact valOp_like hp hl
  · cases op <;> try (simp [plainOp] at hp; done)
    rename_i c
    obtain ⟨callee, args, tys⟩ := c
    cases callee with
    | value f => simp [plainOp] at hp
    | invoke r m => simp [plainOp] at hp
    | builtin b =>
      cases b <;> first | (simp [plainOp] at hp; done) | skip
      simp only [valOp]
      split
      · rename_i x y t t2 hx ht
        have m1 : x ∈ args := by rw [← Array.mem_toList_iff, hx]; simp
        have m2 : y ∈ args := by rw [← Array.mem_toList_iff, hx]; simp
        rw [vOf_like hl (x := x) (by simpa [Op.operands, Call.operands] using m1), vOf_like hl (x := y) (by simpa [Op.operands, Call.operands] using m2)]
      · rfl

theorem heapOp_like {op : Op} (hl : Like (opTmps op) fr fr') : heapOp P A r i fr ob h op = heapOp P A r i fr' ob h op := by
  have v := fun {x} hx => vOf_like (op := op) hl (x := x) hx
  cases op <;> try rfl
  case box t x => simp [heapOp, v (x := x) (by simp [Op.operands])]
  case store t x y => simp [heapOp, v (x := x) (by simp [Op.operands]), v (x := y) (by simp [Op.operands])]
  case makeSlice t x y => simp [heapOp, v (x := x) (by simp [Op.operands]), v (x := y) (by simp [Op.operands])]
  case mapUpdate t x y z => simp [heapOp, v (x := x) (by simp [Op.operands]), v (x := y) (by simp [Op.operands]), v (x := z) (by simp [Op.operands])]
  case insert t x y z => simp [heapOp, v (x := x) (by simp [Op.operands]), v (x := y) (by simp [Op.operands]), v (x := z) (by simp [Op.operands])]
  case range t x => simp [heapOp, v (x := x) (by simp [Op.operands])]
  case next x s => simp [heapOp, v (x := x) (by simp [Op.operands])]
  case load t x => simp [heapOp, v (x := x) (by simp [Op.operands])]

theorem gated_like {α : Type} {x : Option α} {y : α} (hl : Like (looks all o) fr fr') : gated all fr o x y = gated all fr' o x y := by
  unfold gated
  split
  · rfl
  · rename_i j w hg
    split
    · rename_i t ht
      rw [hl t (by simp [looks, hg, ht])]
    · rfl
theorem like_ops (hl : Like (looks all o) fr fr') : Like (opTmps o.op) fr fr' := fun t ht => hl t (List.mem_append_left _ ht)

theorem call_of {f : Operand} {args : Array Operand} (hk : kindOf A r i o.op = .call f args) : ∃ c : Call, o.op = .call c ∧ c.callee = .value f ∧ c.args = args := by
  unfold kindOf at hk
  split at hk <;> first | (cases hk; done) | skip
  · split at hk <;> cases hk
  · split at hk <;> cases hk
  · rename_i hoo
    cases hk
    exact ⟨_, hoo, rfl, rfl⟩

/-- A step, by itself. -/
def stp (P : Program) (A : FAnn) (call : Cl) (r : Nat) (all : List Oper) (ob : List (Nat × Nat)) (i : Nat) (o : Oper) (fr : List (Nat × AV)) (h : H) : Option (AV × H) :=
  stepQ P A call r all ob i o fr h fun v h => some (v, h)

theorem stepQ_eq {R : Type} {k : AV → H → Option R} : stepQ P A call r all ob i o fr h k = (stp P A call r all ob i o fr h).bind fun p => k p.1 p.2 := by
  unfold stp stepQ
  split
  · split
    · rfl
    · simp [Option.bind_assoc]
    · rfl
  · split
    · rfl
    · simp [Option.bind_assoc]
    · rfl
  · simp [Option.bind_assoc]
  · simp [Option.bind_assoc]
  · rw [Option.bind_assoc]
    congr 1
    funext p
    cases p.1 <;> rfl
  · rfl
  · rfl

theorem stp_like (hl : Like (looks all o) fr fr') : stp P A call r all ob i o fr h = stp P A call r all ob i o fr' h := by
  unfold stp stepQ
  split
  · rw [totOp_like (like_ops hl)]
    split
    · rfl
    · rw [gated_like hl]
    · rfl
  · split
    · rfl
    · rw [gated_like hl]
    · rfl
  · rw [valOp_like' (like_ops hl), gated_like hl]
  · rw [heapOp_like (like_ops hl), gated_like hl]
  · rename_i f args hk
    obtain ⟨c, ho, hc, hca⟩ := call_of hk
    have ho' := like_ops hl
    have hm : ∀ x ∈ args, x ∈ o.op.operands := fun x hx => by rw [ho, ← hca] at *; simp [Op.operands, Call.operands, hx]
    have hf : vOf fr f = vOf fr' f := vOf_like ho' (by rw [ho]; simp [Op.operands, Call.operands, hc])
    have ha : (callArgs A f fr args) = (callArgs A f fr' args) := by
      unfold callArgs
      have k1 : (args.toList.map fun x => (vOf fr x).copy) = args.toList.map fun x => (vOf fr' x).copy := List.map_congr_left fun x hx => by rw [vOf_like ho' (hm x (by simpa using hx))]
      have k2 : (args.toList.map fun x => (vOf fr x).canon) = args.toList.map fun x => (vOf fr' x).canon := List.map_congr_left fun x hx => by rw [vOf_like ho' (hm x (by simpa using hx))]
      rw [k1, k2]
    rw [hf, ha, gated_like hl]
  · rfl
  · rfl

/-! ### told by cases -/
theorem bindA_eq {α R : Type} (x : Option α) (f : α → Option R) : bindA x f = x.bind f := by cases x <;> rfl
theorem withV_plain {R : Type} {g : Bool} {v : AV} {k : AV → Option R} {res : R} (h : withV g v k = some res) : k v = some res := by
  unfold withV at h
  cases g with
  | false => exact h
  | true =>
    simp only [cond_true] at h
    unfold condA at h
    split at h
    · rename_i t
      cases t with
      | true => exact h
      | false => exact h
    · cases h

theorem gateK_cases {R α : Type} {x : Option α} {y : α} {f : α → Option R} {fx : α → Option R} {z : Option R} {res : R} (h : gateK all fr o (bindA x fx) z = some res) (hx : ∀ a, fx a = some res → f a = some res) (hz : z = some res → f y = some res) : (gated all fr o x y).bind f = some res := by
  unfold gateK at h
  unfold gated
  have hb : bindA x fx = some res → x.bind f = some res := by
    intro h
    rw [bindA_eq] at h
    rw [Option.bind_eq_some_iff] at h ⊢
    obtain ⟨a, h1, h2⟩ := h
    exact ⟨a, h1, hx a h2⟩
  split
  · rename_i hg; rw [hg] at h; exact hb h
  · rename_i j w hg
    rw [hg] at h
    simp only at h
    split
    · rename_i t ht
      rw [ht] at h
      simp only at h
      unfold gate at *
      split
      · rename_i b hb2
        rw [hb2] at h
        simp only at h
        split
        · rename_i hw; rw [if_pos hw] at h; exact hb h
        · rename_i hw; rw [if_neg hw] at h; exact hz h
      · rename_i hb2; rw [hb2] at h; exact hz h
      · rename_i h3 h4
        split at h
        · rename_i hb2; exact absurd hb2 (h3 _)
        · rename_i hb2; exact absurd hb2 h4
        · cases h
    · rename_i ht
      rw [ht] at h
      cases h

theorem off_call {f : Operand} {args : Array Operand} (hk : kindOf A r i o.op = .call f args) : offOf A r i ob o.op = ob := by
  obtain ⟨c, ho, hc, _⟩ := call_of hk
  rw [ho]
  obtain ⟨callee, args', tys⟩ := c
  simp only at hc
  subst hc
  rfl

theorem regionC_plain {R : Type} {k : K R} {res : R} : ∀ (l : List (Nat × Oper)) (fr : List (Nat × AV)) (ob : List (Nat × Nat)) (ds : List ADef) (h : H), regionC P A call r all k l fr ob ds h = some res → region P A call r all k l fr ob ds h = some res
  | [], _, _, _, _, h => h
  | (i, o) :: l, fr, ob, ds, h, he => by
    have ih := regionC_plain (k := k) (res := res) l
    unfold regionC at he
    unfold region
    split at he
    · simp only [strict_eq] at he ⊢
      have key : (gated all fr o (totOp P fr o.op) (.tuple [])).bind (fun v => region P A call r all k l (putV A.nt o.dst v fr) (putM o.dst (maskOf A r i ob o.op) (offOf A r i ob o.op)) ds h) = some res :=
        gateK_cases he (fun v hv => ih _ _ _ _ (withV_plain hv)) (fun hz => ih _ _ _ _ hz)
      split
      · rename_i v hg hv
        simp only [gated, hg, hv, Option.bind_some] at key
        exact key
      · exact key
      · rename_i hg hv
        simp [gated, hg, hv] at key
    · simp only [strict_eq] at he ⊢
      have key : (gated all fr o (newOp P h o.op) (.tuple [], h)).bind (fun p => region P A call r all k l (putV A.nt o.dst p.1 fr) (putM o.dst (maskOf A r i ob o.op) (offOf A r i ob o.op)) ds p.2) = some res :=
        gateK_cases he (fun p hp => ih _ _ _ _ hp) (fun hz => ih _ _ _ _ hz)
      split
      · rename_i v hg hv
        simp only [gated, hg, hv, Option.bind_some] at key
        exact key
      · exact key
      · rename_i hg hv
        simp [gated, hg, hv] at key
    · simp only [strict_eq] at he ⊢
      exact gateK_cases he (fun v hv => ih _ _ _ _ (withV_plain hv)) (fun hz => ih _ _ _ _ hz)
    · simp only [strict_eq] at he ⊢
      exact gateK_cases he (fun p hp => ih _ _ _ _ (withV_plain hp)) (fun hz => ih _ _ _ _ hz)
    · rename_i f args hk
      refine gateK_cases he (fun p hp => ?_) (fun hz => ih _ _ _ _ hz)
      obtain ⟨e, h'⟩ := p
      cases e with
      | ret v =>
        simp only [retOr] at hp
        exact ih _ _ _ _ (withV_plain hp)
      | pan v => exact hp
    · exact he
    · rename_i f args hk
      cases hg : o.guard.isNone with
      | false => rw [hg] at he; cases he
      | true =>
        rw [hg] at he
        simp only [cond_true, bindA_eq, Option.bind_eq_some_iff] at he ⊢
        obtain ⟨d, h1, h2⟩ := he
        exact ⟨d, h1, ih _ _ _ _ h2⟩

theorem gateK_or {R : Type} {x y : Option R} {res : R} (h : gateK all fr o x y = some res) : ((∀ {α : Type} (X : Option α) (Y : α), gated all fr o X Y = X) ∧ x = some res) ∨ ((∀ {α : Type} (X : Option α) (Y : α), gated all fr o X Y = some Y) ∧ o.guard ≠ none ∧ y = some res) := by
  unfold gateK at h
  split at h
  · rename_i hg
    exact .inl ⟨fun X Y => by unfold gated; rw [hg], h⟩
  · rename_i j w hg
    split at h
    · rename_i t ht
      have key : ∀ {α : Type} (X : Option α) (Y : α), gated all fr o X Y = gate (getV t fr) w X (some Y) := fun X Y => by unfold gated; rw [hg]; simp only; rw [ht]
      unfold gate at h
      split at h
      · rename_i b hb
        split at h
        · rename_i hw
          exact .inl ⟨fun X Y => by rw [key]; unfold gate; rw [hb]; simp only; rw [if_pos hw], h⟩
        · rename_i hw
          exact .inr ⟨fun X Y => by rw [key]; unfold gate; rw [hb]; simp only; rw [if_neg hw], by rw [hg]; simp, h⟩
      · rename_i hb
        exact .inr ⟨fun X Y => by rw [key]; unfold gate; rw [hb], by rw [hg]; simp, h⟩
      · cases h
    · cases h
theorem whenB_some {R : Type} {p : Bool} {x : Option R} {res : R} (h : whenB p x = some res) : p = true ∧ x = some res := by
  unfold whenB at h
  cases p with
  | true => exact ⟨rfl, h⟩
  | false => cases h
mutual
theorem eqb_eq : ∀ {x y : AV}, AV.eqb x y = true → x = y
  | .undef, y, h => by cases y <;> first | rfl | cases h
  | .bool a, y, h => by cases y <;> first | (simp [AV.eqb] at h; subst h; rfl) | cases h
  | .int k a, y, h => by cases y <;> first | (simp [AV.eqb] at h; obtain ⟨rfl, rfl⟩ := h; rfl) | cases h
  | .str a, y, h => by cases y <;> first | (simp [AV.eqb] at h; subst h; rfl) | cases h
  | .nilPtr, y, h => by cases y <;> first | rfl | cases h
  | .ptr i o, y, h => by cases y <;> first | (simp [AV.eqb] at h; obtain ⟨rfl, rfl⟩ := h; rfl) | cases h
  | .rptr c o, .rptr c' o', h => by simp only [AV.eqb, Bool.and_eq_true] at h; rw [eqbL_eq h.1, Nat.eq_of_beq_eq_true h.2]
  | .list r o, .list r' o', h => by simp only [AV.eqb, Bool.and_eq_true, decide_eq_true_eq] at h; rw [eqbR_eq h.1, h.2]
  | .slc i o l s, y, h => by cases y <;> first | (simp [AV.eqb] at h; obtain ⟨⟨⟨rfl, rfl⟩, rfl⟩, rfl⟩ := h; rfl) | cases h
  | .nilMap, y, h => by cases y <;> first | rfl | cases h
  | .map i, y, h => by cases y <;> first | (simp [AV.eqb] at h; subst h; rfl) | cases h
  | .nilFunc, y, h => by cases y <;> first | rfl | cases h
  | .func f a b, .func f' a' b', h => by simp only [AV.eqb, Bool.and_eq_true, decide_eq_true_eq] at h; rw [h.1.1, eqbL_eq h.1.2, eqbL_eq h.2]
  | .nilIface, y, h => by cases y <;> first | rfl | cases h
  | .iface t v, .iface t' v', h => by simp only [AV.eqb, Bool.and_eq_true] at h; rw [Nat.eq_of_beq_eq_true h.1, eqb_eq h.2]
  | .agg c, .agg c', h => by simp only [AV.eqb] at h; rw [eqbL_eq h]
  | .tuple c, .tuple c', h => by simp only [AV.eqb] at h; rw [eqbL_eq h]
theorem eqbL_eq : ∀ {x y : List AV}, eqbL x y = true → x = y
  | [], [], _ => rfl
  | a :: l, b :: l', h => by simp only [eqbL, Bool.and_eq_true] at h; rw [eqb_eq h.1, eqbL_eq h.2]
theorem eqbR_eq : ∀ {x y : List (List AV)}, eqbR x y = true → x = y
  | [], [], _ => rfl
  | a :: l, b :: l', h => by simp only [eqbR, Bool.and_eq_true] at h; rw [eqbL_eq h.1, eqbR_eq h.2]
end
mutual
theorem eqb_self : ∀ x : AV, AV.eqb x x = true
  | .undef | .nilPtr | .nilMap | .nilFunc | .nilIface => rfl
  | .bool a => by simp [AV.eqb]
  | .int k a => by simp [AV.eqb]
  | .str a => by simp [AV.eqb]
  | .ptr i o => by simp [AV.eqb]
  | .rptr c o => by simp [AV.eqb, eqbL_self c]
  | .list r o => by simp [AV.eqb, eqbR_self r]
  | .slc i o l s => by simp [AV.eqb]
  | .map i => by simp [AV.eqb]
  | .func f a b => by simp [AV.eqb, eqbL_self a, eqbL_self b]
  | .iface t v => by simp [AV.eqb, eqb_self v]
  | .agg c => by simp [AV.eqb, eqbL_self c]
  | .tuple c => by simp [AV.eqb, eqbL_self c]
theorem eqbL_self : ∀ x : List AV, eqbL x x = true
  | [] => rfl
  | a :: l => by simp [eqbL, eqb_self a, eqbL_self l]
theorem eqbR_self : ∀ x : List (List AV), eqbR x x = true
  | [] => rfl
  | a :: l => by simp [eqbR, eqbL_self a, eqbR_self l]
end
theorem eqO_eq {x : Option AV} {v : AV} (h : eqO x v = true) : x = some v := by
  cases x with
  | none => cases h
  | some w => rw [eqb_eq h]
theorem chkBack_some {R : Type} {b : Nat} {p : H → Bool} {res : R} : ∀ {l : List (Nat × H)} {k : Option R}, chkBack b p l k = some res → (∀ x ∈ l, b.testBit x.1 = false → p x.2 = true) ∧ k = some res
  | [], k, h => ⟨by simp, h⟩
  | x :: l, k, h => by
    unfold chkBack at h
    cases hb : b.testBit x.1 with
    | true =>
      rw [hb] at h
      obtain ⟨h1, h2⟩ := chkBack_some h
      exact ⟨fun y hy hf => by rcases List.mem_cons.1 hy with rfl | hy; rw [hb] at hf; cases hf; exact h1 y hy hf, h2⟩
    | false =>
      rw [hb] at h
      obtain ⟨h0, h⟩ := whenB_some h
      obtain ⟨h1, h2⟩ := chkBack_some h
      exact ⟨fun y hy hf => by rcases List.mem_cons.1 hy with rfl | hy; exact h0; exact h1 y hy hf, h2⟩
theorem chkFwd_some {R : Type} {b : Nat} {h' : H} {res : R} : ∀ {l : List (Nat × (H → Bool))} {k : Option R}, chkFwd b h' l k = some res → (∀ x ∈ l, b.testBit x.1 = false → x.2 h' = true) ∧ k = some res
  | [], k, h => ⟨by simp, h⟩
  | x :: l, k, h => by
    unfold chkFwd at h
    cases hb : b.testBit x.1 with
    | true =>
      rw [hb] at h
      obtain ⟨h1, h2⟩ := chkFwd_some h
      exact ⟨fun y hy hf => by rcases List.mem_cons.1 hy with rfl | hy; rw [hb] at hf; cases hf; exact h1 y hy hf, h2⟩
    | false =>
      rw [hb] at h
      obtain ⟨h0, h⟩ := whenB_some h
      obtain ⟨h1, h2⟩ := chkFwd_some h
      exact ⟨fun y hy hf => by rcases List.mem_cons.1 hy with rfl | hy; exact h0; exact h1 y hy hf, h2⟩

theorem cls_val (hk : kindOf A r i o.op = .val) : clsOf A r i o.op ≤ 1 := by
  unfold clsOf
  rw [hk]
  simp only
  split <;> omega

/-- What a call by value alone keeps. -/
def Still (call : Cl) (f : FuncId) : Prop := ∀ args h e h', call f args h = some (e, h') → h' = h ∧ ∀ l, call f args (h ++ l) = some (e, h ++ l)

theorem gated_map {α : Type} {x x' : Option α} {y z : α} (h : gated all fr o x y = some z) (hx : ∀ z, x = some z → x' = some z) : gated all fr o x' y = some z := by
  unfold gated at *
  split
  · rename_i hg; rw [hg] at h; exact hx _ h
  · rename_i j w hg
    rw [hg] at h
    simp only at h
    split
    · rename_i t ht
      rw [ht] at h
      simp only at h
      unfold gate at *
      split
      · rename_i b hb
        rw [hb] at h
        simp only at h
        split
        · rename_i hw; rw [if_pos hw] at h; exact hx _ h
        · rename_i hw; rw [if_neg hw] at h; exact h
      · rename_i hb; rw [hb] at h; exact h
      · rename_i h1 h2
        split at h
        · rename_i hb; exact absurd hb (h1 _)
        · rename_i hb; exact absurd hb h2
        · cases h
    · rename_i ht
      rw [ht] at h
      exact h
theorem gated_or {α : Type} {x : Option α} {y z : α} (h : gated all fr o x y = some z) : x = some z ∨ z = y := by
  unfold gated at h
  split at h
  · exact .inl h
  · split at h
    · unfold gate at h
      split at h
      · split at h
        · exact .inl h
        · cases h; exact .inr rfl
      · cases h; exact .inr rfl
      · cases h
    · cases h
/-- The part of a guarded step that is passed by. -/
theorem gated_pair {x x' : Option (AV × H)} {h h2 : H} {v : AV} {h' : H} (he : gated all fr o x (.tuple [], h) = some (v, h')) (hx : ∀ v h', x = some (v, h') → h' = h ∧ x' = some (v, h2)) : h' = h ∧ gated all fr o x' (.tuple [], h2) = some (v, h2) := by
  unfold gated at *
  split
  · rename_i hg; rw [hg] at he; exact hx _ _ he
  · rename_i j w hg
    rw [hg] at he
    simp only at he
    split
    · rename_i t ht
      rw [ht] at he
      simp only at he
      unfold gate at *
      split
      · rename_i b hb
        rw [hb] at he
        simp only at he
        split
        · rename_i hw; rw [if_pos hw] at he; exact hx _ _ he
        · rename_i hw; rw [if_neg hw] at he; cases he; exact ⟨rfl, rfl⟩
      · rename_i hb; rw [hb] at he; cases he; exact ⟨rfl, rfl⟩
      · rename_i h1 h2
        split at he
        · rename_i hb; exact absurd hb (h1 _)
        · rename_i hb; exact absurd hb h2
        · cases he
    · rename_i ht
      rw [ht] at he
      cases he

theorem rowsOf_more {s : Nat} {b : Bool} {x : AV} {rows : List (List AV)} (he : rowsOf s b h x = some rows) : rowsOf s b (h ++ l) x = some rows := by
  unfold rowsOf at he ⊢
  split at he
  · exact he
  · split at he
    · rename_i hid; simp only [obj_more hid]; exact he
    · cases he
  · exact he
  · cases he
theorem valOp_more' {op : Op} {v : AV} (he : valOp P A r i fr ob h op = some v) : valOp P A r i fr ob (h ++ l) op = some v := by
  by_cases hp : plainOp op = true
  · exact valOp_more hp he
  · cases op <;> try (simp [plainOp] at hp; done)
    rename_i c
    obtain ⟨callee, args, tys⟩ := c
    cases callee with
    | value f => simp [plainOp] at hp
    | invoke r m => simp [plainOp] at hp
    | builtin b =>
      cases b <;> first | (simp [plainOp] at hp; done) | skip
      simp only [valOp] at he ⊢
      split at he
      · split at he
        · rename_i e het
          split at he
          · rename_i hc
            rw [if_pos hc]
            unfold appendTo at he ⊢
            split at he
            · rename_i z hz
              split at he
              · rename_i hzz
                rw [if_pos hzz]
                unfold apSlice at he ⊢
                split at he
                · simp only [Option.bind_eq_some_iff] at he ⊢
                  obtain ⟨more, h1, h2⟩ := he
                  exact ⟨more, rowsOf_more h1, h2⟩
                · cases he
              · cases he
            · cases he
          · cases he
        · cases he
      · cases he

/-- Which operations do not look at the heap. -/
theorem valOp_still {op : Op} (hk : kindOf A r i op = .val) (hc : clsOf A r i op = 0) (h2 : H) : valOp P A r i fr ob h op = valOp P A r i fr ob h2 op := by
  unfold clsOf at hc
  rw [hk] at hc
  simp only at hc
  cases op <;> first | rfl | (simp at hc; done) | skip
  rename_i c
  obtain ⟨callee, args, tys⟩ := c
  cases callee with
  | value f => simp at hc
  | invoke r m => simp at hc
  | builtin b => cases b <;> first | rfl | (simp at hc; done)

theorem stp_still (hc : clsOf A r i o.op = 0) {v : AV} {h' : H} (he : stp P A call r all ob i o fr h = some (v, h')) : h' = h ∧ ∀ h2, stp P A call r all ob i o fr h2 = some (v, h2) := by
  cases hk : kindOf A r i o.op with
  | tot =>
    unfold stp stepQ at *
    rw [hk] at he ⊢
    simp only at he ⊢
    split at he
    · cases he; exact ⟨rfl, fun _ => rfl⟩
    · simp only [Option.bind_eq_some_iff] at he ⊢
      obtain ⟨a, h1, h2⟩ := he
      cases h2
      exact ⟨rfl, fun _ => ⟨_, h1, rfl⟩⟩
    · cases he
  | val =>
    unfold stp stepQ at *
    rw [hk] at he ⊢
    simp only [Option.bind_eq_some_iff] at he ⊢
    obtain ⟨a, h1, h2⟩ := he
    cases h2
    exact ⟨rfl, fun h2 => ⟨_, by rw [← valOp_still (h := h) hk hc h2]; exact h1, rfl⟩⟩
  | new => simp [clsOf, hk] at hc
  | heap => simp [clsOf, hk] at hc
  | pan x => simp [clsOf, hk] at hc
  | dfr f args => simp [clsOf, hk] at hc
  | call f args =>
    simp only [clsOf, hk] at hc
    split at hc
    · cases hq : A.q.contains _ <;> rw [hq] at hc <;> simp at hc
    · cases hc

theorem stp_reader (hq : ∀ f ∈ A.q, Still call f) (hc : clsOf A r i o.op = 1) {v : AV} {h' : H} (he : stp P A call r all ob i o fr h = some (v, h')) : h' = h ∧ ∀ l, stp P A call r all ob i o fr (h ++ l) = some (v, h ++ l) := by
  cases hk : kindOf A r i o.op with
  | tot => simp [clsOf, hk] at hc
  | new => simp [clsOf, hk] at hc
  | heap => simp [clsOf, hk] at hc
  | pan x => simp [clsOf, hk] at hc
  | dfr f args => simp [clsOf, hk] at hc
  | val =>
    unfold stp stepQ at *
    rw [hk] at he ⊢
    simp only [Option.bind_eq_some_iff] at he ⊢
    obtain ⟨a, h1, h2⟩ := he
    cases h2
    exact ⟨rfl, fun l => ⟨_, gated_map h1 fun z hz => valOp_more' hz, rfl⟩⟩
  | call f args =>
    simp only [clsOf, hk] at hc
    split at hc
    · rename_i g
      cases hg : A.q.contains g with
      | false => rw [hg] at hc; simp at hc
      | true =>
        have hst := hq g (by simpa using hg)
        unfold stp stepQ at *
        rw [hk] at he ⊢
        simp only [Option.bind_eq_some_iff] at he ⊢
        obtain ⟨⟨e, hp⟩, h1, h2⟩ := he
        cases e with
        | pan w => cases h2
        | ret w =>
          cases h2
          have key : ∀ l, True → hp = h ∧ gated all fr o (callVal call (h ++ l) (vOf fr (.func g)) (callArgs A (.func g) fr args)) (.ret (.tuple []), h ++ l) = some (.ret v, h ++ l) := by
            intro l _
            unfold gated at *
            have cv : ∀ e h', callVal call h (vOf fr (.func g)) (callArgs A (.func g) fr args) = some (e, h') → h' = h ∧ callVal call (h ++ l) (vOf fr (.func g)) (callArgs A (.func g) fr args) = some (e, h ++ l) := by
              intro e h' hcv
              simp only [callVal, vOf] at hcv ⊢
              exact ⟨(hst _ _ _ _ hcv).1, (hst _ _ _ _ hcv).2 l⟩
            split
            · rename_i hg; rw [hg] at h1; exact cv _ _ h1
            · rename_i j w hg
              rw [hg] at h1
              simp only at h1
              split
              · rename_i t ht
                rw [ht] at h1
                simp only at h1
                unfold gate at *
                split
                · rename_i b hb
                  rw [hb] at h1
                  simp only at h1
                  split
                  · rename_i hw; rw [if_pos hw] at h1; exact cv _ _ h1
                  · rename_i hw; rw [if_neg hw] at h1; cases h1; exact ⟨rfl, rfl⟩
                · rename_i hb; rw [hb] at h1; cases h1; exact ⟨rfl, rfl⟩
                · rename_i h3 h4
                  split at h1
                  · rename_i hb; exact absurd hb (h3 _)
                  · rename_i hb; exact absurd hb h4
                  · cases h1
              · rename_i ht
                rw [ht] at h1
                cases h1
          exact ⟨(key [] trivial).1, fun l => ⟨_, (key l trivial).2, rfl⟩⟩
    · cases hc

theorem stp_new (hc : clsOf A r i o.op = 2) {v : AV} {h' : H} (he : stp P A call r all ob i o fr h = some (v, h')) : ∃ l, h' = h ++ l := by
  have nw : ∀ v h', newOp P h o.op = some (v, h') → ∃ l, h' = h ++ l := by
    intro v h' hn
    unfold newOp at hn
    split at hn
    · split at hn
      · split at hn
        · cases hn; exact ⟨_, rfl⟩
        · cases hn
      · cases hn
    · cases hn; exact ⟨_, rfl⟩
    · cases hn
  cases hk : kindOf A r i o.op with
  | tot => simp [clsOf, hk] at hc
  | heap => simp [clsOf, hk] at hc
  | pan x => simp [clsOf, hk] at hc
  | dfr f args => simp [clsOf, hk] at hc
  | val => simp only [clsOf, hk] at hc; split at hc <;> cases hc
  | call f args =>
    simp only [clsOf, hk] at hc
    split at hc
    · cases hq : A.q.contains _ <;> rw [hq] at hc <;> simp at hc
    · cases hc
  | new =>
    unfold stp stepQ at he
    rw [hk] at he
    simp only at he
    split at he
    · rename_i p hg hp
      cases he
      exact nw _ _ hp
    · simp only [Option.bind_eq_some_iff] at he
      obtain ⟨p, h1, h2⟩ := he
      cases h2
      rcases gated_or h1 with h1 | h1
      · exact nw _ _ h1
      · subst h1; exact ⟨[], by simp⟩
    · cases he

/-- One operation, with its looks. -/
theorem stepC {R : Type} (hq : ∀ f ∈ A.q, Still call f) {bs : List Nat} {k : List (Nat × AV) → List (Nat × Nat) → H → Option R} {res : R} {rest : List (Nat × Oper)} {pr : List (Nat × (H → Bool))} {pw : List (Nat × H)} (he : regionQC P A call r all bs k ((i, o) :: rest) pr pw fr ob h = some res) :
    ∃ v h' pr' pw', stp P A call r all ob i o fr h = some (v, h') ∧ regionQC P A call r all bs k rest pr' pw' (putV A.nt o.dst v fr) (putM o.dst (maskQ P A r i ob o) (offQ A r i ob o.op)) h' = some res ∧
      (clsOf A r i o.op = 1 → ∀ x ∈ pw, (befAt bs i).testBit x.1 = false → stp P A call r all ob i o fr x.2 = some (v, x.2)) ∧
      (clsOf A r i o.op = 3 → h' ≠ h → ∀ x ∈ pr, (befAt bs i).testBit x.1 = false → x.2 h' = true) ∧
      (∀ x ∈ pr, x ∈ pr') ∧ (∀ x ∈ pw, x ∈ pw') ∧
      (clsOf A r i o.op = 1 → (∀ h2, stp P A call r all ob i o fr h2 = some (v, h2)) ∨ ∃ p, (i, p) ∈ pr' ∧ ∀ h2, p h2 = true → stp P A call r all ob i o fr h2 = some (v, h2)) ∧
      (2 ≤ clsOf A r i o.op → h' ≠ h → (i, h) ∈ pw') := by
  unfold regionQC at he
  cases hk : kindOf A r i o.op with
  | tot =>
    rw [hk] at he
    simp only [strict_eq] at he
    have hc : clsOf A r i o.op = 0 := by simp [clsOf, hk]
    rcases gateK_or he with ⟨hx, he⟩ | ⟨hx, hg, he⟩
    · rw [bindA_eq, Option.bind_eq_some_iff] at he
      obtain ⟨v, hv, he⟩ := he
      refine ⟨v, h, pr, pw, ?_, (by have h5 := withV_plain he; exact h5), fun e => absurd e (by omega), fun e => absurd e (by omega), fun _ h => h, fun _ h => h, fun e => absurd e (by omega), fun e => absurd e (by omega)⟩
      unfold stp stepQ
      rw [hk]
      simp only
      split
      · rename_i v' _ hv'; rw [hv] at hv'; cases hv'; rfl
      · rw [hx, hv]; rfl
      · rename_i hv'; rw [hv] at hv'; cases hv'
    · refine ⟨.tuple [], h, pr, pw, ?_, he, fun e => absurd e (by omega), fun e => absurd e (by omega), fun _ h => h, fun _ h => h, fun e => absurd e (by omega), fun e => absurd e (by omega)⟩
      unfold stp stepQ
      rw [hk]
      simp only
      split
      · rename_i h1 _; exact absurd h1 hg
      · rw [hx]; rfl
      · rename_i h1 _; exact absurd h1 hg
  | new =>
    rw [hk] at he
    simp only [strict_eq] at he
    have hc : clsOf A r i o.op = 2 := by simp [clsOf, hk]
    rcases gateK_or he with ⟨hx, he⟩ | ⟨hx, hg, he⟩
    · rw [bindA_eq, Option.bind_eq_some_iff] at he
      obtain ⟨⟨v, h'⟩, hv, he⟩ := he
      refine ⟨v, h', pr, _, ?_, he, fun e => absurd e (by omega), fun e => absurd e (by omega), fun _ h => h, fun _ h => List.mem_cons_of_mem _ h, fun e => absurd e (by omega), fun _ _ => List.mem_cons_self⟩
      unfold stp stepQ
      rw [hk]
      simp only
      split
      · rename_i v' _ hv'; rw [hv] at hv'; cases hv'; rfl
      · rw [hx, hv]; rfl
      · rename_i hv'; rw [hv] at hv'; cases hv'
    · refine ⟨.tuple [], h, pr, pw, ?_, he, fun e => absurd e (by omega), fun e => absurd e (by omega), fun _ h => h, fun _ h => h, fun e => absurd e (by omega), fun _ hn => absurd rfl hn⟩
      unfold stp stepQ
      rw [hk]
      simp only
      split
      · rename_i h1 _; exact absurd h1 hg
      · rw [hx]; rfl
      · rename_i h1 _; exact absurd h1 hg
  | val =>
    rw [hk] at he
    simp only [strict_eq] at he
    have hc := cls_val hk
    rcases gateK_or he with ⟨hx, he⟩ | ⟨hx, hg, he⟩
    · rw [bindA_eq, Option.bind_eq_some_iff] at he
      obtain ⟨v, hv, he⟩ := he
      have run : ∀ h2, valOp P A r i fr ob h2 o.op = some v → stp P A call r all ob i o fr h2 = some (v, h2) := by
        intro h2 h3
        unfold stp stepQ
        rw [hk]
        simp only
        rw [hx, h3]; rfl
      cases hb : Nat.beq (clsOf A r i o.op) 1 with
      | true =>
        rw [hb] at he
        obtain ⟨c1, he⟩ := chkBack_some he
        refine ⟨v, h, _, pw, run h hv, (by have h5 := withV_plain he; exact h5), fun _ x hx hf => run _ (eqO_eq (c1 x hx hf)), fun e => absurd e (by omega), fun _ h => List.mem_cons_of_mem _ h, fun _ h => h, fun _ => .inr ⟨_, List.mem_cons_self, fun h2 h3 => run h2 (eqO_eq h3)⟩, fun e => absurd e (by omega)⟩
      | false =>
        rw [hb] at he
        dsimp only [pickJ] at he
        have hne : clsOf A r i o.op ≠ 1 := fun e => by rw [e] at hb; simp at hb
        exact ⟨v, h, pr, pw, run h hv, (by have h5 := withV_plain he; exact h5), fun e => absurd e hne, fun e => absurd e (by omega), fun _ h => h, fun _ h => h, fun e => absurd e hne, fun e => absurd e (by omega)⟩
    · have run : ∀ h2, stp P A call r all ob i o fr h2 = some (.tuple [], h2) := by
        intro h2
        unfold stp stepQ
        rw [hk]
        simp only
        rw [hx]; rfl
      exact ⟨.tuple [], h, pr, pw, run h, he, fun _ x _ _ => run _, fun e => absurd e (by omega), fun _ h => h, fun _ h => h, fun _ => .inl run, fun e => absurd e (by omega)⟩
  | heap =>
    rw [hk] at he
    simp only [strict_eq] at he
    have hc : clsOf A r i o.op = 3 := by simp [clsOf, hk]
    rcases gateK_or he with ⟨hx, he⟩ | ⟨hx, hg, he⟩
    · rw [bindA_eq, Option.bind_eq_some_iff] at he
      obtain ⟨⟨v, h'⟩, hv, he⟩ := he
      obtain ⟨c1, he⟩ := chkFwd_some he
      refine ⟨v, h', pr, _, ?_, (by have h5 := withV_plain he; exact h5), fun e => absurd e (by omega), fun _ _ x hx hf => c1 x hx hf, fun _ h => h, fun _ h => List.mem_cons_of_mem _ h, fun e => absurd e (by omega), fun _ _ => List.mem_cons_self⟩
      unfold stp stepQ
      rw [hk]
      simp only
      rw [hx, hv]; rfl
    · refine ⟨.tuple [], h, pr, pw, ?_, he, fun e => absurd e (by omega), fun _ hn => absurd rfl hn, fun _ h => h, fun _ h => h, fun e => absurd e (by omega), fun _ hn => absurd rfl hn⟩
      unfold stp stepQ
      rw [hk]
      simp only
      rw [hx]; rfl
  | call f args =>
    rw [hk] at he
    simp only [strict_eq] at he
    have hc : clsOf A r i o.op = 1 ∨ clsOf A r i o.op = 3 := by
      unfold clsOf
      rw [hk]
      simp only
      split
      · cases A.q.contains _ <;> simp
      · exact .inr rfl
    rcases gateK_or he with ⟨hx, he⟩ | ⟨hx, hg, he⟩
    · rw [bindA_eq, Option.bind_eq_some_iff] at he
      obtain ⟨⟨e, h'⟩, hv, he⟩ := he
      cases e with
      | pan x => cases he
      | ret v =>
        simp only [retOr] at he
        have run : ∀ h2 h3, callVal call h2 (vOf fr f) (callArgs A f fr args) = some (.ret v, h3) → stp P A call r all ob i o fr h2 = some (v, h3) := by
          intro h2 h3 h4
          unfold stp stepQ
          rw [hk]
          simp only
          rw [hx, h4]; rfl
        have rdrun : clsOf A r i o.op = 1 → ∀ h2, rdCall A call f args fr v h2 = true → stp P A call r all ob i o fr h2 = some (v, h2) := by
          intro h1 h2 hrd
          unfold rdCall eqE at hrd
          split at hrd
          · rename_i x w h3 hx3
            have hv3 := eqb_eq hrd
            subst hv3
            have hst : h3 = h2 := by
              have hg : ∃ g, f = .func g ∧ A.q.contains g = true := by
                unfold clsOf at h1
                rw [hk] at h1
                simp only at h1
                cases f with
                | func g =>
                  cases hqq : A.q.contains g with
                  | false => simp only at h1; rw [hqq] at h1; simp at h1
                  | true => exact ⟨g, rfl, hqq⟩
                | tmp t => simp at h1
                | const c => simp at h1
                | global g => simp at h1
              obtain ⟨g, rfl, hqq⟩ := hg
              simp only [callVal, vOf] at hx3
              exact (hq g (by simpa using hqq) _ _ _ _ hx3).1
            subst hst
            exact run _ _ hx3
          · cases hrd
        cases hb : Nat.beq (clsOf A r i o.op) 1 with
        | true =>
          have h1 := Nat.eq_of_beq_eq_true hb
          rw [hb] at he
          obtain ⟨c1, he⟩ := chkBack_some he
          exact ⟨v, h', _, pw, run h h' hv, (by have h5 := withV_plain he; exact h5), fun _ x hx hf => rdrun h1 _ (c1 x hx hf), fun e => absurd e (by omega), fun _ h => List.mem_cons_of_mem _ h, fun _ h => h, fun _ => .inr ⟨_, List.mem_cons_self, fun h2 h3 => rdrun h1 h2 h3⟩, fun e => absurd e (by omega)⟩
        | false =>
          rw [hb] at he
          dsimp only [pickJ] at he
          have hne : clsOf A r i o.op ≠ 1 := fun e => by rw [e] at hb; simp at hb
          obtain ⟨c1, he⟩ := chkFwd_some he
          exact ⟨v, h', pr, _, run h h' hv, (by have h5 := withV_plain he; exact h5), fun e => absurd e hne, fun _ _ x hx hf => c1 x hx hf, fun _ h => h, fun _ h => List.mem_cons_of_mem _ h, fun e => absurd e hne, fun _ _ => List.mem_cons_self⟩
    · have run : ∀ h2, stp P A call r all ob i o fr h2 = some (.tuple [], h2) := by
        intro h2
        unfold stp stepQ
        rw [hk]
        simp only
        rw [hx]; rfl
      exact ⟨.tuple [], h, pr, pw, run h, he, fun _ x _ _ => run _, fun _ hn => absurd rfl hn, fun _ h => h, fun _ h => h, fun _ => .inl run, fun _ hn => absurd rfl hn⟩
  | pan x => rw [hk] at he; cases he
  | dfr f args => rw [hk] at he; cases he

end
end Go.Ve

/- VE: regions whose order is drawn: any order comes to the same. -/
namespace Go.Ve
open Go

/-! ### what is bound ahead -/
def befOne (acc : List Nat) (o : Oper) : Nat := (directs o).foldl (fun m j => Nat.lor m (Nat.lor (Nat.shiftLeft 1 j) ((acc[j]?).getD 0))) 0

theorem befM_spec : ∀ (l : List Oper) (acc : List Nat), ∃ rs, befM l acc = acc ++ rs ∧ rs.length = l.length ∧ ∀ (j : Nat) o, l[j]? = some o → rs[j]? = some (befOne (acc ++ rs.take j) o)
  | [], acc => ⟨[], by simp [befM], rfl, by simp⟩
  | o :: l, acc => by
    obtain ⟨rs, h1, h2, h3⟩ := befM_spec l (acc ++ [befOne acc o])
    refine ⟨befOne acc o :: rs, ?_, by simp [h2], ?_⟩
    · show befM l (acc ++ [befOne acc o]) = _
      rw [h1]; simp
    · intro j p hp
      cases j with
      | zero => simp at hp; subst hp; simp
      | succ j =>
        simp only [List.getElem?_cons_succ] at hp ⊢
        rw [h3 j p hp]
        simp

theorem befOne_bit {acc : List Nat} {o : Oper} {i : Nat} (h : (befOne acc o).testBit i = true) : ∃ j ∈ directs o, i = j ∨ ((acc[j]?).getD 0).testBit i = true := by
  unfold befOne at h
  have key : ∀ (l : List Nat) (m : Nat), (l.foldl (fun m j => Nat.lor m (Nat.lor (Nat.shiftLeft 1 j) ((acc[j]?).getD 0))) m).testBit i = true → m.testBit i = true ∨ ∃ j ∈ l, i = j ∨ ((acc[j]?).getD 0).testBit i = true := by
    intro l
    induction l with
    | nil => intro m h; exact .inl h
    | cons j l ih =>
      intro m h
      rcases ih _ h with h | ⟨j', h1, h2⟩
      · have h' : (m ||| ((1 <<< j) ||| (acc[j]?).getD 0)).testBit i = true := h
        rw [Nat.testBit_or, Nat.testBit_or, Nat.one_shiftLeft, Nat.testBit_two_pow] at h'
        simp only [Bool.or_eq_true, decide_eq_true_eq] at h'
        rcases h' with h' | h' | h'
        · exact .inl h'
        · exact .inr ⟨j, by simp, .inl h'.symm⟩
        · exact .inr ⟨j, by simp, .inr h'⟩
      · exact .inr ⟨j', by simp [h1], h2⟩
  rcases key _ _ h with h | h
  · simp at h
  · exact h

def bef (all : List Oper) (k i : Nat) : Bool := (((befM all [])[k]?).getD 0).testBit i

theorem bef_closed {all : List Oper} {S : Nat → Prop} (hS : ∀ j o, S j → all[j]? = some o → ∀ i ∈ directs o, S i) : ∀ k, S k → ∀ i, bef all k i = true → S i := by
  obtain ⟨rs, h1, h2, h3⟩ := befM_spec all []
  simp only [List.nil_append] at h1 h3
  intro k
  induction k using Nat.strongRecOn with
  | ind k ih =>
    intro hk i hi
    unfold bef at hi
    rw [h1] at hi
    cases ho : all[k]? with
    | none =>
      rw [List.getElem?_eq_none (by rw [h2]; exact List.getElem?_eq_none_iff.1 ho)] at hi
      simp at hi
    | some o =>
      rw [h3 k o ho] at hi
      simp only [Option.getD_some] at hi
      obtain ⟨j, hj, hij⟩ := befOne_bit hi
      have hSj := hS k o hk ho j hj
      rcases hij with rfl | hij
      · exact hSj
      · by_cases hjk : j < k
        · refine ih j hjk hSj i ?_
          unfold bef
          rw [h1]
          rw [List.getElem?_take_of_lt hjk] at hij
          exact hij
        · rw [List.getElem?_eq_none (by simp; omega)] at hij
          simp at hij

section
variable {P : Program} {A : FAnn} {r : Nat} {obf : Nat → List (Nat × Nat)} {call : Cl} {all : List Oper}

theorem regionQ_eq {R : Type} {k : List (Nat × AV) → H → Option R} : ∀ (l : List (Nat × Oper)) (fr : List (Nat × AV)) (h : H), regionQ P A call r all obf k l fr h = (regionQ P A call r all obf (fun fr h => some (fr, h)) l fr h).bind fun p => k p.1 p.2
  | [], _, _ => rfl
  | (i, o) :: l, fr, h => by
    unfold regionQ
    rw [stepQ_eq, stepQ_eq, Option.bind_assoc]
    congr 1
    funext p
    exact regionQ_eq l _ _

/-- The run in the text's order, step by step. -/
structure Trace (P : Program) (A : FAnn) (call : Cl) (r : Nat) (all : List Oper) (obf : Nat → List (Nat × Nat)) (s : Nat) (l : List Oper) (fr : List (Nat × AV)) (h : H) (fr1 : List (Nat × AV)) (h1 : H) (V : Nat → AV) (Hp : Nat → H) (Fr : Nat → List (Nat × AV)) : Prop where
  f0 : Fr s = fr
  h0 : Hp s = h
  step : ∀ (j : Nat) o, l[j]? = some o → stp P A call r all (obf (s + j)) (s + j) o (Fr (s + j)) (Hp (s + j)) = some (V (s + j), Hp (s + j + 1)) ∧ Fr (s + j + 1) = putV A.nt o.dst (V (s + j)) (Fr (s + j))
  fn : Fr (s + l.length) = fr1
  hn : Hp (s + l.length) = h1

/-- What looks at the heap sees the same beside what turns it. -/
structure Looks (P : Program) (A : FAnn) (call : Cl) (r : Nat) (all : List Oper) (obf : Nat → List (Nat × Nat)) (V : Nat → AV) (Hp : Nat → H) (Fr : Nat → List (Nat × AV)) (lo hi : Nat) : Prop where
  back : ∀ (j i : Nat) o p, lo ≤ j → j < i → i < hi → all[i]? = some o → all[j]? = some p → clsOf A r i o.op = 1 → 2 ≤ clsOf A r j p.op → Hp (j + 1) ≠ Hp j → bef all i j = false → stp P A call r all (obf i) i o (Fr i) (Hp j) = some (V i, Hp j)
  fwd : ∀ (i j : Nat) o p, lo ≤ i → i < j → j < hi → all[i]? = some o → all[j]? = some p → clsOf A r i o.op = 1 → clsOf A r j p.op = 3 → Hp (j + 1) ≠ Hp j → bef all j i = false → stp P A call r all (obf i) i o (Fr i) (Hp (j + 1)) = some (V i, Hp (j + 1))

theorem traceC_of {R : Type} (hq : ∀ f ∈ A.q, Still call f) {ob0 : List (Nat × Nat)} {k : List (Nat × AV) → List (Nat × Nat) → H → Option R} {res : R} : ∀ (l : List Oper) (s : Nat) (pr : List (Nat × (H → Bool))) (pw : List (Nat × H)) (fr : List (Nat × AV)) (h : H), (∀ j : Nat, l[j]? = all[s + j]?) →
    regionQC P A call r all (befM all []) k (enum s l) pr pw fr (obN P A r all ob0 s) h = some res → ∃ V Hp Fr fr1 h1, Trace P A call r all (obN P A r all ob0) s l fr h fr1 h1 V Hp Fr ∧ k fr1 (obN P A r all ob0 (s + l.length)) h1 = some res ∧ Looks P A call r all (obN P A r all ob0) V Hp Fr s (s + l.length) ∧
      (∀ (i : Nat) o x, s ≤ i → i < s + l.length → all[i]? = some o → clsOf A r i o.op = 1 → x ∈ pw → bef all i x.1 = false → stp P A call r all (obN P A r all ob0 i) i o (Fr i) x.2 = some (V i, x.2)) ∧
      (∀ (j : Nat) p x, s ≤ j → j < s + l.length → all[j]? = some p → clsOf A r j p.op = 3 → Hp (j + 1) ≠ Hp j → x ∈ pr → bef all j x.1 = false → x.2 (Hp (j + 1)) = true)
  | [], s, pr, pw, fr, h, hl, he => ⟨fun _ => .undef, fun _ => h, fun _ => fr, fr, h, ⟨rfl, rfl, by simp, rfl, rfl⟩, he, ⟨fun j i o p a b c => by simp at c; omega, fun i j o p a b c => by simp at c; omega⟩, fun i o x a b => by simp at b; omega, fun j p x a b => by simp at b; omega⟩
  | o :: l, s, pr, pw, fr, h, hl, he => by
    have hos : all[s]? = some o := by have := hl 0; simpa using this.symm
    simp only [enum] at he
    obtain ⟨v, h', pr', pw', hs, he, g1, g2, g3, g4, g5, g6⟩ := stepC hq he
    have hob : putM o.dst (maskQ P A r s (obN P A r all ob0 s) o) (offQ A r s (obN P A r all ob0 s) o.op) = obN P A r all ob0 (s + 1) := by
      simp only [obN, hos]
    rw [hob] at he
    obtain ⟨V', Hp', Fr', fr1, h1, t, hk, lk, c1, c2⟩ := traceC_of hq l (s + 1) pr' pw' _ _ (fun j => by have := hl (j + 1); simp only [List.getElem?_cons_succ] at this; rw [this]; congr 1; omega) he
    have e1 := t.h0
    have e2 := t.f0
    have len : s + 1 + l.length = s + (o :: l).length := by simp; omega
    have vi : ∀ i, i ≠ s → (if i = s then v else V' i) = V' i := fun i hi => if_neg hi
    have hi_ : ∀ i, i ≠ s → (if i = s then h else Hp' i) = Hp' i := fun i hi => if_neg hi
    have fi : ∀ i, i ≠ s → (if i = s then fr else Fr' i) = Fr' i := fun i hi => if_neg hi
    refine ⟨fun i => if i = s then v else V' i, fun i => if i = s then h else Hp' i, fun i => if i = s then fr else Fr' i, fr1, h1, ⟨by simp, by simp, ?_, ?_, ?_⟩, ?_, ⟨?_, ?_⟩, ?_, ?_⟩
    · intro j p hp
      cases j with
      | zero =>
        simp only [List.getElem?_cons_zero, Option.some.injEq] at hp
        subst hp
        simp [e1, e2, hs]
      | succ j =>
        simp only [List.getElem?_cons_succ] at hp
        have := t.step j p hp
        rw [show s + 1 + j = s + (j + 1) by omega] at this
        simpa [show s + (j + 1) ≠ s by omega, show s + (j + 1) + 1 ≠ s by omega] using this
    · have := t.fn
      rw [len] at this
      rw [fi _ (by simp)]
      exact this
    · have := t.hn
      rw [len] at this
      rw [hi_ _ (by simp)]
      exact this
    · rw [← len]; exact hk
    · intro j i p q a b c hp hq k1 k2 k3 k4
      rw [fi i (by omega), vi i (by omega)]
      rw [hi_ (j + 1) (by omega)] at k3
      by_cases hj : j = s
      · subst hj
        simp only [if_true] at k3 ⊢
        rw [hos] at hq
        cases hq
        rw [e1] at k3
        exact c1 i p (j, h) (by omega) (by omega) hp k1 (g6 k2 k3) k4
      · rw [hi_ j hj] at k3 ⊢
        exact lk.back j i p q (by omega) b (by omega) hp hq k1 k2 k3 k4
    · intro i j p q a b c hp hq k1 k2 k3 k4
      rw [hi_ (j + 1) (by omega)] at k3 ⊢
      rw [hi_ j (by omega)] at k3
      by_cases hj : i = s
      · subst hj
        rw [hos] at hp
        cases hp
        simp only [if_true]
        rcases g5 k1 with hall | ⟨pp, hm, hall⟩
        · exact hall _
        · exact hall _ (c2 j q _ (by omega) (by omega) hq k2 k3 hm k4)
      · rw [fi i hj, vi i hj]
        exact lk.fwd i j p q (by omega) b (by omega) hp hq k1 k2 k3 k4
    · intro i p x a b hp k1 hx k2
      by_cases hj : i = s
      · subst hj
        rw [hos] at hp
        cases hp
        simp only [if_true]
        exact g1 k1 x hx k2
      · dsimp only
        rw [fi i hj, vi i hj]
        exact c1 i p x (by omega) (by omega) hp k1 (g4 x hx) k2
    · intro j q x a b hq k1 k2 hx k3
      dsimp only at k2 ⊢
      rw [hi_ (j + 1) (by omega)] at k2 ⊢
      by_cases hj : j = s
      · subst hj
        rw [hos] at hq
        cases hq
        simp only [if_true] at k2
        rw [e1] at k2 ⊢
        exact g2 k1 k2 x hx k3
      · rw [hi_ j hj] at k2
        exact c2 j q x (by omega) (by omega) hq k1 k2 (g3 x hx) k3

/-- What the check says. -/
structure Chk (P : Program) (A : FAnn) (r : Nat) (all : List Oper) (ob : List (Nat × Nat)) : Prop where
  edges : ∀ (i : Nat) o, all[i]? = some o → ∀ j ∈ directs o, j < i
  self : ∀ (i : Nat) o, all[i]? = some o → ∀ d, o.dst = some d → d ∉ looks all o
  ext : ∀ (i : Nat) o t, all[i]? = some o → exSrc o.op = some t → ∀ n, n ≤ all.length → getM t (obN P A r all ob n) = 0
  dst : ∀ (i j : Nat) o p, all[i]? = some o → all[j]? = some p → i < j → ∀ d, o.dst = some d → p.dst = some d → bef all j i = true
  back : ∀ (i j : Nat) o p, all[i]? = some o → all[j]? = some p → i < j → ∀ d, p.dst = some d → d ∈ looks all o → bef all j i = true
  ahead : ∀ (i j : Nat) o p, all[i]? = some o → all[j]? = some p → i < j → ∀ d, o.dst = some d → d ∈ looks all p → bef all j i = true
  touch : ∀ (i j : Nat) o p, all[i]? = some o → all[j]? = some p → i < j → ∀ t, t ∈ touchL A r i o → t ∈ touchL A r j p → bef all j i = true
  cls : ∀ (i j : Nat) o p, all[i]? = some o → all[j]? = some p → i < j → bef all j i = true ∨ clsOk (clsOf A r i o.op) (clsOf A r j p.op) = true

theorem mem_enum : ∀ (l : List Oper) (s j : Nat) (o : Oper), l[j]? = some o → (s + j, o) ∈ enum s l
  | [], _, _, _, h => by simp at h
  | p :: l, s, 0, o, h => by simp at h; subst h; simp [enum]
  | p :: l, s, j + 1, o, h => by
    simp only [List.getElem?_cons_succ] at h
    have := mem_enum l (s + 1) j o h
    rw [show s + 1 + j = s + (j + 1) by omega] at this
    simp [enum, this]

theorem obL_at {ob : List (Nat × Nat)} : ∀ (l : List Oper) (s n : Nat), (∀ j : Nat, l[j]? = all[s + j]?) → n ≤ l.length → obN P A r all ob (s + n) ∈ obL P A r (enum s l) (obN P A r all ob s)
  | [], s, n, _, hn => by
    have : n = 0 := by simpa using hn
    subst this
    simp [enum, obL]
  | o :: l, s, 0, _, _ => by simp [enum, obL]
  | o :: l, s, n + 1, hl, hn => by
    have hos : all[s]? = some o := by have := hl 0; simpa using this.symm
    have hob : putM o.dst (maskQ P A r s (obN P A r all ob s) o) (offQ A r s (obN P A r all ob s) o.op) = obN P A r all ob (s + 1) := by
      simp only [obN, hos]
    have := obL_at (ob := ob) l (s + 1) n (fun j => by have := hl (j + 1); simp only [List.getElem?_cons_succ] at this; rw [this]; congr 1; omega) (by simpa using hn)
    rw [show s + 1 + n = s + (n + 1) by omega] at this
    simp only [enum, obL, strict_eq, hob]
    exact List.mem_cons_of_mem _ this

theorem chk_of {ob : List (Nat × Nat)} (h : drawChk P A r all ob = true) : Chk P A r all ob := by
  unfold drawChk at h
  rw [List.all_eq_true] at h
  have one : ∀ (i : Nat) o, all[i]? = some o → ((directs o).all (fun j => Nat.blt j i) = true ∧ inL o.dst (looks all o) = false ∧ (match exSrc o.op with
       | some t => (obL P A r (enum 0 all) ob).all fun ob => Nat.beq (getM t ob) 0
       | none => true) = true) ∧ ∀ (j : Nat) p, all[j]? = some p → i < j → pairOk A r all (befM all []) i o j p = true := by
    intro i o hi
    have := h (i, o) (by have := mem_enum all 0 i o hi; simpa using this)
    simp only [Bool.and_eq_true, Bool.not_eq_true'] at this
    refine ⟨⟨this.1.1.1, this.1.1.2, this.1.2⟩, fun j p hj hij => ?_⟩
    have h2 := this.2
    rw [List.all_eq_true] at h2
    have h3 := h2 (j, p) (by have := mem_enum all 0 j p hj; simpa using this)
    simp only [Bool.or_eq_true] at h3
    rcases h3 with h3 | h3
    · exact absurd (Nat.le_of_ble_eq_true h3) (by omega)
    · exact h3
  have pr : ∀ (i j : Nat) o p, all[i]? = some o → all[j]? = some p → i < j → bef all j i = true ∨ (sameD o.dst p.dst = false ∧ inL p.dst (looks all o) = false ∧ inL o.dst (looks all p) = false ∧ (touchL A r i o).all (fun t => !(touchL A r j p).contains t) = true ∧ clsOk (clsOf A r i o.op) (clsOf A r j p.op) = true) := by
    intro i j o p hi hj hij
    have := (one i o hi).2 j p hj hij
    unfold pairOk at this
    simp only [Bool.and_eq_true, Bool.not_eq_true', Bool.or_eq_true] at this
    rcases this with h | h
    · exact .inl h
    · exact .inr ⟨h.1.1.1.1, h.1.1.1.2, h.1.1.2, h.1.2, h.2⟩
  refine ⟨?_, ?_, ?_, ?_, ?_, ?_, ?_, ?_⟩
  · intro i o hi e he
    have := (one i o hi).1.1
    rw [List.all_eq_true] at this
    exact Nat.le_of_ble_eq_true (this e he)
  · intro i o hi d hd hm
    have := (one i o hi).1.2.1
    rw [hd] at this
    simp [inL] at this
    exact this hm
  · intro i o t hi ht n hn
    have := (one i o hi).1.2.2
    rw [ht] at this
    simp only [List.all_eq_true] at this
    have hm := obL_at (P := P) (A := A) (r := r) (all := all) (ob := ob) all 0 n (fun j => by simp) hn
    rw [Nat.zero_add] at hm
    exact Nat.eq_of_beq_eq_true (this _ hm)
  · intro i j o p hi hj hij d hd hp
    rcases pr i j o p hi hj hij with h | h
    · exact h
    · have := h.1
      rw [hd, hp] at this
      simp [sameD] at this
  · intro i j o p hi hj hij d hd hm
    rcases pr i j o p hi hj hij with h | h
    · exact h
    · have := h.2.1
      rw [hd] at this
      simp [inL] at this
      exact absurd hm this
  · intro i j o p hi hj hij d hd hm
    rcases pr i j o p hi hj hij with h | h
    · exact h
    · have := h.2.2.1
      rw [hd] at this
      simp [inL] at this
      exact absurd hm this
  · intro i j o p hi hj hij t ht hm
    rcases pr i j o p hi hj hij with h | h
    · exact h
    · have := h.2.2.2.1
      rw [List.all_eq_true] at this
      have := this t ht
      simp at this
      exact absurd hm this
  · intro i j o p hi hj hij
    rcases pr i j o p hi hj hij with h | h
    · exact .inl h
    · exact .inr h.2.2.2.2

/-- An order in which each operation comes behind what is bound ahead of it. -/
def Valid (all : List Oper) : List Nat → (Nat → Prop) → Prop
  | [], S => ∀ i, i < all.length → S i
  | i :: l, S => ¬ S i ∧ (∃ o, all[i]? = some o ∧ ∀ j ∈ directs o, S j) ∧ Valid all l fun j => S j ∨ j = i

def put1 (nt : Nat) (t : Nat) (v : AV) : AV := bif Nat.blt t nt then v else .undef
theorem getV_put (nt : Nat) (d : Option Tmp) (v : AV) (fr : List (Nat × AV)) (t : Nat) : getV t (putV nt d v fr) = if d = some t then put1 nt t v else getV t fr := by
  cases d with
  | none => rfl
  | some d =>
    by_cases hd : d = t
    · subst hd
      simp only [putV, put1, if_true]
      cases Nat.blt d nt <;> simp [getV]
    · simp only [putV, Option.some.injEq, hd, if_false]
      cases Nat.blt d nt <;> simp [getV, beq_no hd]

/-- A temporary holds what the last one of those that are done has put there. -/
def LastW (A : FAnn) (all : List Oper) (fr0 : List (Nat × AV)) (V : Nat → AV) (S : Nat → Prop) (fr : List (Nat × AV)) (t : Nat) : Prop :=
  (∃ (j : Nat) (o : Oper), S j ∧ all[j]? = some o ∧ o.dst = some t ∧ (∀ (k : Nat) (p : Oper), S k → all[k]? = some p → p.dst = some t → k ≤ j) ∧ getV t fr = put1 A.nt t (V j)) ∨
  ((∀ (j : Nat) (o : Oper), S j → all[j]? = some o → o.dst ≠ some t) ∧ getV t fr = getV t fr0)

section
variable {fr0 : List (Nat × AV)} {h0 : H} {fr1 : List (Nat × AV)} {h1 : H} {V : Nat → AV} {Hp : Nat → H} {Fr : Nat → List (Nat × AV)}

theorem LastW.eq {S S' : Nat → Prop} {fr fr' : List (Nat × AV)} {t : Nat} (h : LastW A all fr0 V S fr t) (h' : LastW A all fr0 V S' fr' t) (hs : ∀ (j : Nat) (o : Oper), all[j]? = some o → o.dst = some t → (S j ↔ S' j)) : getV t fr = getV t fr' := by
  rcases h with ⟨j, o, a1, a2, a3, a4, a5⟩ | ⟨a1, a2⟩
  · rcases h' with ⟨k, p, b1, b2, b3, b4, b5⟩ | ⟨b1, b2⟩
    · have e1 := a4 k p ((hs k p b2 b3).2 b1) b2 b3
      have e2 := b4 j o ((hs j o a2 a3).1 a1) a2 a3
      have : j = k := by omega
      rw [a5, b5, this]
    · exact absurd a3 (b1 j o ((hs j o a2 a3).1 a1) a2)
  · rcases h' with ⟨k, p, b1, b2, b3, b4, b5⟩ | ⟨b1, b2⟩
    · exact absurd b3 (a1 k p ((hs k p b2 b3).2 b1) b2)
    · rw [a2, b2]
theorem LastW.put {S S' : Nat → Prop} {fr : List (Nat × AV)} {i : Nat} {o : Oper} (ho : all[i]? = some o) (hS : ∀ j, S' j ↔ S j ∨ j = i) (h : ∀ t, LastW A all fr0 V S fr t) (hlt : ∀ (k : Nat) (p : Oper) (t : Nat), S k → all[k]? = some p → p.dst = some t → o.dst = some t → k ≤ i) (t : Nat) : LastW A all fr0 V S' (putV A.nt o.dst (V i) fr) t := by
  by_cases hd : o.dst = some t
  · refine .inl ⟨i, o, (hS i).2 (.inr rfl), ho, hd, fun k p hk hp hpt => ?_, by rw [getV_put, if_pos hd]⟩
    rcases (hS k).1 hk with hk | rfl
    · exact hlt k p t hk hp hpt hd
    · exact Nat.le_refl _
  · have e : getV t (putV A.nt o.dst (V i) fr) = getV t fr := by rw [getV_put, if_neg hd]
    rcases h t with ⟨j, p, a1, a2, a3, a4, a5⟩ | ⟨a1, a2⟩
    · refine .inl ⟨j, p, (hS j).2 (.inl a1), a2, a3, fun k q hk hq hqt => ?_, by rw [e, a5]⟩
      rcases (hS k).1 hk with hk | rfl
      · exact a4 k q hk hq hqt
      · rw [ho] at hq; cases hq; exact absurd hqt hd
    · refine .inr ⟨fun j p hj hp => ?_, by rw [e, a2]⟩
      rcases (hS j).1 hj with hj | rfl
      · exact a1 j p hj hp
      · rw [ho] at hp; cases hp; exact hd

/-- What turns the heap. -/
def wr (A : FAnn) (r : Nat) (Hp : Nat → H) (j : Nat) (o : Oper) : Prop := 2 ≤ clsOf A r j o.op ∧ Hp (j + 1) ≠ Hp j

structure Inv (A : FAnn) (r : Nat) (all : List Oper) (fr0 : List (Nat × AV)) (V : Nat → AV) (Hp : Nat → H) (S : Nat → Prop) (fr : List (Nat × AV)) (h : H) : Prop where
  dir : ∀ j o, S j → all[j]? = some o → ∀ i ∈ directs o, S i
  fr : ∀ t, LastW A all fr0 V S fr t
  c : ∃ m, h = Hp m ∧ m ≤ all.length ∧ (∀ (j : Nat) o, S j → all[j]? = some o → wr A r Hp j o → j < m) ∧ (∀ (j : Nat) o, j < m → all[j]? = some o → wr A r Hp j o → S j)

/-- The text's own states are of that kind. -/
theorem Trace.frames (t : Trace P A call r all obf 0 all fr0 h0 fr1 h1 V Hp Fr) : ∀ i, i ≤ all.length → ∀ x, LastW A all fr0 V (fun j => j < i) (Fr i) x := by
  intro i
  induction i with
  | zero => intro _ x; exact .inr ⟨fun j _ hj => absurd hj (by omega), by rw [t.f0]⟩
  | succ i ih =>
    intro hi x
    have hio : all[i]? = some all[i] := by simp
    have hs := (t.step i _ hio).2
    simp only [Nat.zero_add] at hs
    rw [hs]
    exact LastW.put hio (fun j => by omega) (ih (by omega)) (fun k p t hk _ _ _ => by omega) x

theorem Trace.still (hq : ∀ f ∈ A.q, Still call f) (t : Trace P A call r all obf 0 all fr0 h0 fr1 h1 V Hp Fr) {j : Nat} {o : Oper} (ho : all[j]? = some o) (hw : ¬ wr A r Hp j o) : Hp (j + 1) = Hp j := by
  have hs := (t.step j o ho).1
  simp only [Nat.zero_add] at hs
  by_cases hc : 2 ≤ clsOf A r j o.op
  · exact Classical.byContradiction fun hn => hw ⟨hc, hn⟩
  · rcases (show clsOf A r j o.op = 0 ∨ clsOf A r j o.op = 1 by omega) with hc | hc
    · exact (stp_still hc hs).1
    · exact (stp_reader hq hc hs).1

/-- Between two places without a writer the heap stays. -/
theorem Trace.between (hq : ∀ f ∈ A.q, Still call f) (t : Trace P A call r all obf 0 all fr0 h0 fr1 h1 V Hp Fr) (m : Nat) : ∀ k, m ≤ k → k ≤ all.length → (∀ (j : Nat) o, m ≤ j → j < k → all[j]? = some o → ¬ wr A r Hp j o) → Hp k = Hp m := by
  intro k
  induction k with
  | zero => intro h1 _ _; rw [show m = 0 by omega]
  | succ k ih =>
    intro h1 h2 h3
    by_cases hm : m = k + 1
    · rw [hm]
    · have hk : all[k]? = some all[k] := by simp
      rw [t.still hq hk (h3 k _ (by omega) (by omega) hk)]
      exact ih (by omega) (by omega) fun j o a b => h3 j o a (by omega)
/-- With makers alone between, it grows. -/
theorem Trace.grows (hq : ∀ f ∈ A.q, Still call f) (t : Trace P A call r all obf 0 all fr0 h0 fr1 h1 V Hp Fr) (m : Nat) : ∀ k, m ≤ k → k ≤ all.length → (∀ (j : Nat) o, m ≤ j → j < k → all[j]? = some o → wr A r Hp j o → clsOf A r j o.op = 2) → ∃ l, Hp k = Hp m ++ l := by
  intro k
  induction k with
  | zero => intro h1 _ _; rw [show m = 0 by omega]; exact ⟨[], by simp⟩
  | succ k ih =>
    intro h1 h2 h3
    by_cases hm : m = k + 1
    · rw [hm]; exact ⟨[], by simp⟩
    · have hk : all[k]? = some all[k] := by simp
      obtain ⟨l, hl⟩ := ih (by omega) (by omega) fun j o a b => h3 j o a (by omega)
      by_cases hw : wr A r Hp k all[k]
      · have hs := (t.step k _ hk).1
        simp only [Nat.zero_add] at hs
        obtain ⟨l2, hl2⟩ := stp_new (h3 k _ (by omega) (by omega) hk hw) hs
        exact ⟨l ++ l2, by rw [hl2, hl, List.append_assoc]⟩
      · exact ⟨l, by rw [t.still hq hk hw, hl]⟩

theorem clsOk_wr {a b : Nat} (ha : 2 ≤ a) (hb : 2 ≤ b) : clsOk a b = false := by
  match a, b with
  | 0, _ => omega
  | 1, _ => omega
  | _ + 2, 0 => omega
  | _ + 2, 1 => omega
  | _ + 2, _ + 2 => rfl

theorem least_of {Q : Nat → Prop} {m i : Nat} (h : ∃ j, m ≤ j ∧ j < i ∧ Q j) : ∃ j, m ≤ j ∧ j < i ∧ Q j ∧ ∀ k, m ≤ k → k < j → ¬ Q k := by
  obtain ⟨j, h1, h2, h3⟩ := h
  induction j using Nat.strongRecOn with
  | ind j ih =>
    by_cases hx : ∃ k, m ≤ k ∧ k < j ∧ Q k
    · obtain ⟨k, a, b, c⟩ := hx
      exact ih k b a (by omega) c
    · exact ⟨j, h1, h2, h3, fun k a b c => hx ⟨k, a, b, c⟩⟩
theorem greatest_of {Q : Nat → Prop} {m i : Nat} (h : ∃ j, m ≤ j ∧ j < i ∧ Q j) : ∃ j, m ≤ j ∧ j < i ∧ Q j ∧ ∀ k, j < k → k < i → ¬ Q k := by
  obtain ⟨j, h1, h2, h3⟩ := h
  obtain ⟨d, hd⟩ : ∃ d, d = i - j := ⟨_, rfl⟩
  induction d using Nat.strongRecOn generalizing j with
  | ind d ih =>
    by_cases hx : ∃ k, j < k ∧ k < i ∧ Q k
    · obtain ⟨k, a, b, c⟩ := hx
      exact ih (i - k) (by omega) k (by omega) b c rfl
    · exact ⟨j, h1, h2, h3, fun k a b c => hx ⟨k, a, b, c⟩⟩
theorem cls_le {A : FAnn} {r i : Nat} {op : Op} : clsOf A r i op ≤ 3 := by
  unfold clsOf
  split
  · omega
  · omega
  · omega
  · omega
  · omega
  · split
    · cases A.q.contains _ <;> simp
    · omega
  · split <;> omega

/-- One more step, at any time at which it may be taken. -/
theorem Inv.step {ob0 : List (Nat × Nat)} (ck : Chk P A r all ob0) (hq : ∀ f ∈ A.q, Still call f) (t : Trace P A call r all obf 0 all fr0 h0 fr1 h1 V Hp Fr) (lk : Looks P A call r all obf V Hp Fr 0 all.length) {S : Nat → Prop} {fr : List (Nat × AV)} {h : H} (iv : Inv A r all fr0 V Hp S fr h)
    {i : Nat} {o : Oper} (ho : all[i]? = some o) (hi : ¬ S i) (hd : ∀ j ∈ directs o, S j) : ∃ h', stp P A call r all (obf i) i o fr h = some (V i, h') ∧ Inv A r all fr0 V Hp (fun j => S j ∨ j = i) (putV A.nt o.dst (V i) fr) h' := by
  have hil : i < all.length := (List.getElem?_eq_some_iff.1 ho).1
  have hs := (t.step i o ho).1
  simp only [Nat.zero_add] at hs
  have closed : ∀ k, S k → ∀ j, bef all k j = true → S j := bef_closed iv.dir
  have dir' : ∀ j p, (S j ∨ j = i) → all[j]? = some p → ∀ k ∈ directs p, S k ∨ k = i := by
    intro j p hj hp k hk
    rcases hj with hj | rfl
    · exact .inl (iv.dir j p hj hp k hk)
    · rw [ho] at hp; cases hp; exact .inl (hd k hk)
  have closed' : ∀ j, bef all i j = true → j ≠ i → S j := by
    intro j hj hji
    rcases bef_closed dir' i (.inr rfl) j hj with h | h
    · exact h
    · exact absurd h hji
  -- what it looks at
  have hlike : Like (looks all o) (Fr i) fr := by
    intro x hx
    refine (t.frames i (by omega) x).eq (iv.fr x) fun j p hp hpx => ⟨fun hlt => ?_, fun hS => ?_⟩
    · exact closed' j (ck.ahead j i p o hp ho hlt x hpx hx) (by omega)
    · rcases Nat.lt_trichotomy j i with h | h | h
      · exact h
      · subst h; exact absurd hS hi
      · exact absurd (closed j hS i (ck.back i j o p ho hp h x hpx hx)) hi
  obtain ⟨m, hm, hml, c1, c2⟩ := iv.c
  have atH : ∀ hh v' h', stp P A call r all (obf i) i o (Fr i) hh = some (v', h') → stp P A call r all (obf i) i o fr hh = some (v', h') := fun hh v' h' e => by rw [← stp_like hlike]; exact e
  -- the frame
  have ff : ∀ x, LastW A all fr0 V (fun j => S j ∨ j = i) (putV A.nt o.dst (V i) fr) x := fun x => by
    refine LastW.put ho (fun j => Iff.rfl) iv.fr (fun k p t hk hp hpt hot => ?_) x
    rcases Nat.lt_or_ge i k with hlt | hge
    · exact absurd (closed k hk i (ck.dst i k o p ho hp hlt t hot hpt)) hi
    · exact hge
  by_cases hwi : 2 ≤ clsOf A r i o.op
  · -- it may turn the heap: all that do so ahead of it are done, and no other one
    have ord : ∀ (j : Nat) p, all[j]? = some p → j ≠ i → 2 ≤ clsOf A r j p.op → (S j ↔ j < i) := by
      intro j p hp hji hw
      constructor
      · intro hS
        rcases Nat.lt_or_gt_of_ne hji with h | h
        · exact h
        · rcases ck.cls i j o p ho hp h with hb | hb
          · exact absurd (closed j hS i hb) hi
          · rw [clsOk_wr hwi hw] at hb; cases hb
      · intro hlt
        rcases ck.cls j i p o hp ho hlt with hb | hb
        · exact closed' j hb hji
        · rw [clsOk_wr hw hwi] at hb; cases hb
    have e : Hp i = Hp m := by
      rcases Nat.lt_or_ge i m with hmi | hmi
      · refine (t.between hq i m (by omega) hml fun j p a b hp hw => ?_).symm
        have hS := c2 j p b hp hw
        have hji : j ≠ i := fun e => hi (e ▸ hS)
        have := (ord j p hp hji hw.1).1 hS
        omega
      · refine t.between hq m i hmi (by omega) fun j p a b hp hw => ?_
        have hS := (ord j p hp (by omega) hw.1).2 b
        have := c1 j p hS hp hw
        omega
    rw [e, ← hm] at hs
    refine ⟨_, atH _ _ _ hs, dir', ff, i + 1, rfl, by omega, ?_, ?_⟩
    · intro j p hj hp hw
      rcases hj with hj | rfl
      · have hji : j ≠ i := fun e => hi (e ▸ hj)
        have := (ord j p hp hji hw.1).1 hj
        omega
      · omega
    · intro j p hj hp hw
      by_cases hji : j = i
      · exact .inr hji
      · exact .inl ((ord j p hp hji hw.1).2 (by omega))
  · have cc : ∀ h', h' = h → Inv A r all fr0 V Hp (fun j => S j ∨ j = i) (putV A.nt o.dst (V i) fr) h' := by
      rintro h' rfl
      refine ⟨dir', ff, m, hm, hml, ?_, ?_⟩
      · intro j p hj hp hw
        rcases hj with hj | rfl
        · exact c1 j p hj hp hw
        · rw [ho] at hp; cases hp; exact absurd hw.1 hwi
      · intro j p hj hp hw
        exact .inl (c2 j p hj hp hw)
    rcases (show clsOf A r i o.op = 0 ∨ clsOf A r i o.op = 1 by omega) with hc | hc
    · exact ⟨h, atH _ _ _ ((stp_still hc hs).2 h), cc h rfl⟩
    · have stay := (stp_reader hq hc hs).1
      rw [stay] at hs
      refine ⟨h, atH _ _ _ ?_, cc h rfl⟩
      rw [hm]
      rcases Nat.lt_or_ge i m with hmi | hmi
      · have done : ∀ (j : Nat) (p : Oper), i < j → j < m → all[j]? = some p → wr A r Hp j p → bef all j i = false := by
          intro j p hij hjm hp hw
          have hSj := c2 j p hjm hp hw
          cases hb : bef all j i with
          | false => rfl
          | true => exact absurd (closed j hSj i hb) hi
        by_cases hex : ∃ j, i + 1 ≤ j ∧ j < m ∧ ∃ p, all[j]? = some p ∧ wr A r Hp j p ∧ clsOf A r j p.op = 3
        · obtain ⟨j, a1, a2, ⟨p, a3, a4, a5⟩, a6⟩ := greatest_of hex
          have h1 := lk.fwd i j o p (Nat.zero_le _) (by omega) (by omega) ho a3 hc a5 a4.2 (done j p (by omega) a2 a3 a4)
          obtain ⟨l, hl⟩ := t.grows hq (j + 1) m (by omega) hml fun k q b1 b2 b3 b4 => by
            have : clsOf A r k q.op ≠ 3 := fun e => a6 k (by omega) b2 ⟨q, b3, b4, e⟩
            have := b4.1
            have := cls_le (A := A) (r := r) (i := k) (op := q.op)
            omega
          rw [hl]
          exact (stp_reader hq hc h1).2 l
        · obtain ⟨l, hl⟩ := t.grows hq i m (by omega) hml fun k q b1 b2 b3 b4 => by
            by_cases hki : k = i
            · subst hki; rw [ho] at b3; cases b3; exact absurd b4.1 hwi
            · have : clsOf A r k q.op ≠ 3 := fun e => hex ⟨k, by omega, b2, q, b3, b4, e⟩
              have := b4.1
              have := cls_le (A := A) (r := r) (i := k) (op := q.op)
              omega
          rw [hl]
          exact (stp_reader hq hc hs).2 l
      · by_cases hex : ∃ j, m ≤ j ∧ j < i ∧ ∃ p, all[j]? = some p ∧ wr A r Hp j p
        · obtain ⟨j, a1, a2, ⟨p, a3, a4⟩, a5⟩ := least_of hex
          have e := t.between hq m j a1 (by omega) fun k q b1 b2 b3 b4 => a5 k b1 b2 ⟨q, b3, b4⟩
          rw [← e]
          refine lk.back j i o p (Nat.zero_le _) a2 hil ho a3 hc a4.1 a4.2 ?_
          cases hb : bef all i j with
          | false => rfl
          | true =>
            have := c1 j p (closed' j hb (by omega)) a3 a4
            omega
        · have e := t.between hq m i hmi (by omega) fun k q b1 b2 b3 b4 => hex ⟨k, b1, b2, q, b3, b4⟩
          rw [← e]
          exact hs

def orderedL (all : List Oper) (l : List Nat) : List (Nat × Oper) := l.filterMap fun i => (all[i]?).map fun o => (i, o)

theorem valid_run {ob0 : List (Nat × Nat)} (ck : Chk P A r all ob0) (hq : ∀ f ∈ A.q, Still call f) (t : Trace P A call r all obf 0 all fr0 h0 fr1 h1 V Hp Fr) (lk : Looks P A call r all obf V Hp Fr 0 all.length) : ∀ (l : List Nat) (S : Nat → Prop) (fr : List (Nat × AV)) (h : H), Valid all l S → Inv A r all fr0 V Hp S fr h →
    ∃ fr2, regionQ P A call r all obf (fun fr h => some (fr, h)) (orderedL all l) fr h = some (fr2, h1) ∧ ∀ x, getV x fr2 = getV x fr1
  | [], S, fr, h, hv, iv => by
    have e1 := t.fn
    have e2 := t.hn
    simp only [Nat.zero_add] at e1 e2
    obtain ⟨m, hm, hml, c1, c2⟩ := iv.c
    have hall : ∀ (j : Nat) o, all[j]? = some o → S j := fun j o ho => hv j (List.getElem?_eq_some_iff.1 ho).1
    have hh : h = h1 := by
      rw [hm, ← e2]
      exact (t.between hq m all.length hml (Nat.le_refl _) fun j o a b ho hw => by have := c1 j o (hall j o ho) ho hw; omega).symm
    subst hh
    refine ⟨fr, rfl, fun x => ?_⟩
    rw [← e1]
    exact (iv.fr x).eq (t.frames all.length (Nat.le_refl _) x) fun j p hp _ => ⟨fun _ => (List.getElem?_eq_some_iff.1 hp).1, fun _ => hall j p hp⟩
  | i :: l, S, fr, h, hv, iv => by
    obtain ⟨hi, ⟨o, ho, hd⟩, hv⟩ := hv
    obtain ⟨h', hs, iv'⟩ := iv.step ck hq t lk ho hi hd
    obtain ⟨fr2, e, hg⟩ := valid_run ck hq t lk l _ _ _ hv iv'
    refine ⟨fr2, ?_, hg⟩
    simp only [orderedL, List.filterMap_cons, ho, Option.map_some, regionQ]
    rw [stepQ_eq, hs]
    exact e

/-- In whatever order. -/
theorem order_free {R : Type} {ob0 : List (Nat × Nat)} {k : List (Nat × AV) → List (Nat × Nat) → H → Option R} {res : R} (ck : Chk P A r all ob0) (hq : ∀ f ∈ A.q, Still call f) (he : regionQC P A call r all (befM all []) k (enum 0 all) [] [] fr0 ob0 h0 = some res) {l : List Nat} (hv : Valid all l fun _ => False) :
    ∃ fr1 fr2 h1, k fr1 (obN P A r all ob0 all.length) h1 = some res ∧ regionQ P A call r all (obN P A r all ob0) (fun fr h => some (fr, h)) (orderedL all l) fr0 h0 = some (fr2, h1) ∧ ∀ x, getV x fr2 = getV x fr1 := by
  obtain ⟨V, Hp, Fr, fr1, h1, t, hk, lk, _, _⟩ := traceC_of (P := P) (A := A) (call := call) (r := r) hq (ob0 := ob0) all 0 [] [] fr0 h0 (fun j => by simp) he
  rw [Nat.zero_add] at hk lk
  have hh := t.h0
  obtain ⟨fr2, e, hg⟩ := valid_run ck hq t lk l _ fr0 h0 hv ⟨fun _ _ h => h.elim, fun _ => .inr ⟨fun _ _ h => h.elim, rfl⟩, 0, hh.symm, Nat.zero_le _, fun _ _ h => h.elim, fun _ _ h => absurd h (by omega)⟩
  exact ⟨fr1, fr2, h1, hk, e, hg⟩
end
end
end Go.Ve
