import Derived.Test.YtdggnlgklicbdaaVa3
import Derived.Scope
import Derived.Recover
set_option linter.all false
namespace Go.Ve
open Go
theorem getV_keep (fr : List (Nat × AV)) (t : Nat) : ∀ l : List (Nat × Nat), getV t (keepFr fr l) = getV t fr ∨ getV t (keepFr fr l) = .undef
  | [] => .inr rfl
  | p :: l => by
    simp only [keepFr, getV]
    cases hb : Nat.beq p.1 t with
    | true =>
      have := Nat.eq_of_beq_eq_true hb
      subst this
      exact .inl rfl
    | false => exact getV_keep fr t l
theorem getM_keep (ob : List (Nat × Nat)) (t p : Nat) : ∀ l : List (Nat × Nat), (getM t (keepOb ob l)).testBit p = true → (getM t ob).testBit p = true
  | [], h => by simp [keepOb, getM] at h
  | q :: l, h => by
    simp only [keepOb, strict_eq, getM] at h
    cases hb : Nat.beq q.1 t with
    | true =>
      rw [hb] at h
      have := Nat.eq_of_beq_eq_true hb
      subst this
      simp only [cond_true] at h
      have h' : (getM q.1 ob &&& q.2).testBit p = true := h
      rw [Nat.testBit_and] at h'
      simp at h'
      exact h'.1
    | false =>
      rw [hb] at h
      exact getM_keep ob t p l h
section
variable {P : Program} {w : World} {g : Gh} {h : H}
theorem FR.keep {fr : List (Nat × AV)} {ob : List (Nat × Nat)} {tmps : Array Value} (hF : FR w g fr ob tmps) (l l' : List (Nat × Nat)) : FR w g (keepFr fr l) (keepOb ob l') tmps := by
  intro t
  have h1 := hF.mono (ob' := keepOb ob l') (.refl w g) (fun t p c hb => ⟨getM_keep ob t p l' hb, fun _ hb => ⟨hb, rfl, fun _ h => h⟩⟩) t
  rcases getV_keep fr t l with e | e
  · rw [e]; exact h1
  · rw [e]; exact .undef
theorem M.enter {nt : Nat} {s : St} {a : Act} (m : M nt s a w g) (an : Ann) : M nt (an.enter s) a w g := by
  unfold Ann.enter
  split
  · exact ⟨m.fr.keep _ _, m.hr, m.size, m.df⟩
  · exact m
theorem drew_ev (w : World) (g : Gh) (n : Nat) : Ev w g { w with drawn := n } g := ⟨Nat.le_refl _, fun _ _ h => ⟨h, rfl⟩, fun _ _ h => h, fun _ _ h => ⟨h, rfl, fun _ h => h⟩, rfl, rfl, fun _ h => h⟩
theorem HR.drew (hH : HR w g h) (n : Nat) : HR { w with drawn := n } g h :=
  ⟨fun id o hid ht => (hH.obj id o hid ht).mono (drew_ev w g n).mono (fun _ _ => ⟨rfl, fun _ h => h⟩) (fun _ _ hb => ⟨hb, rfl, fun _ h => h⟩), hH.inj, hH.lt, hH.bd, hH.stlt, hH.rsv, hH.rlt⟩
def ordered (ops : Array Oper) (l : List Nat) : List (Nat × Oper) := l.filterMap fun i => (ops[i]?).map fun o => (i, o)
theorem enum_range (ops : Array Oper) : ordered ops (List.range ops.size) = enum 0 ops.toList := by
  have key : ∀ (l : List Oper) (n : Nat) (all : Array Oper), (∀ j, j < l.length → all[n + j]? = l[j]?) → ((List.range' n l.length).filterMap fun i => (all[i]?).map fun o => (i, o)) = enum n l := by
    intro l
    induction l with
    | nil => intros; rfl
    | cons o l ih =>
      intro n all h
      have h0 := h 0 (by simp)
      simp only [Nat.add_zero, List.getElem?_cons_zero] at h0
      rw [List.length_cons, List.range'_succ, List.filterMap_cons, h0]
      simp only [Option.map_some, enum]
      rw [ih (n + 1) all (fun j hj => by
        have := h (j + 1) (by simp; omega)
        rw [show n + 1 + j = n + (j + 1) by omega, this]; simp)]
  have := key ops.toList 0 ops (fun j _ => by simp)
  rw [Array.length_toList] at this
  unfold ordered
  rw [List.range_eq_range']
  exact this
theorem wp_rounds {c : Code} {Q : Exit → Act → World → Prop} (I : Nat → Act → World → Prop) (hI : ∀ a w, ¬ I 0 a w) (round : ∀ n a w, I (n + 1) a w → c.wp P (Exit.then (I n) Q) a w) {n : Nat} {a : Act} {w : World} (h0 : I n a w) : (Code.loop c).wp P Q a w := by
  intro b k cs
  have key : ∀ n a w, I n a w → ∃ e a' w', Q e a' w' ∧ Arrives P (lone (b.at a (.code c :: .inLoop c :: k)) cs w) b k cs e a' w' := by
    intro n
    induction n with
    | zero => intro a w h; exact absurd h (hI a w)
    | succ n ih =>
      intro a w h
      obtain ⟨e, a₁, w₁, hq, harr⟩ := round n a w h b (.inLoop c :: k) cs
      cases e with
      | normal =>
        obtain ⟨e₂, a₂, w₂, hq₂, harr₂⟩ := ih a₁ w₁ hq
        exact ⟨e₂, a₂, w₂, hq₂, .of_steps (Steps.trans harr (.one step_inLoop)) harr₂⟩
      | exit id => exact ⟨_, a₁, w₁, hq, .pass (x := .inLoop c) rfl (fun _ _ => .inl (by simp)) harr⟩
      | goto l => exact ⟨_, a₁, w₁, hq, .pass (x := .inLoop c) rfl (fun _ _ => .inl (by simp)) harr⟩
      | ret => exact ⟨_, a₁, w₁, hq, .pass (x := .inLoop c) rfl (fun _ _ => .inl (by simp)) harr⟩
      | panic ch => exact ⟨_, a₁, w₁, hq, .pass (x := .inLoop c) rfl (fun _ _ => .inl (by simp)) harr⟩
      | outgrown => exact ⟨_, a₁, w₁, hq, .pass (x := .inLoop c) rfl (fun _ _ => .inl (by simp)) harr⟩
  obtain ⟨e, a', w', hq, harr⟩ := key n a w h0
  exact ⟨e, a', w', hq, .of_steps (.one step_loop) harr⟩
theorem exec_sound {R : Type} {call : Cl} (hcall : CallOk P call) {A : FAnn} (hdr : A.drawn = false) (hmix : P.follows .mixedOrders = true) (hq : ∀ f ∈ A.q, Still call f) {n : Nat} {res : R} : ∀ (c : Code) (an : Ann) (k : K R) (s : St) (a : Act) (w : World) (g : Gh) (w0 : World) (g0 : Gh),
    exec P A call n c an k s = some res → M A.nt s a w g → Ev w0 g0 w g → c.wp P (Post k res A.nt w0 g0) a w := by
  intro c
  induction c with
  | skip => intro an k s a w g w0 g0 he m ev; exact wp_skip ⟨s, g, m, ev, he⟩
  | label l => intro an k s a w g w0 g0 he m ev; exact wp_label ⟨s, g, m, ev, he⟩
  | exit id => intro an k s a w g w0 g0 he m ev; exact wp_exit ⟨s, g, m, ev, he⟩
  | ret => intro an k s a w g w0 g0 he m ev; exact wp_ret ⟨s, g, m, ev, he⟩
  | goto l => intro an k s a w g w0 g0 he m ev; simp [exec, execG] at he
  | refuse l => intro an k s a w g w0 g0 he m ev; simp [exec, execG] at he
  | rangeFunc f ps x y => intro an k s a w g w0 g0 he m ev; simp [exec, execG] at he
  | region r ops draw =>
    intro an k s a w g w0 g0 he m ev
    obtain ⟨fr, ob, ds, h⟩ := s
    obtain ⟨m1, m2, m3, m4⟩ := m
    simp only at m1 m2 m4
    cases draw with
    | false =>
      simp only [exec, execG, rgOf, rqOf] at he
      have he := regionC_plain _ _ _ _ _ he
      refine wp_region (region_sound (r := r) hcall hdr (List.range ops.size) fr ob ds h a w g w0 g0 ?_ m1 m2 m3 m4 ev)
      have := enum_range ops
      unfold ordered at this
      rw [this]
      exact he
    | true =>
      simp only [exec, execG, rgOf, rqOf] at he
      cases hck : drawChk P (A.quiet h.length) r ops.toList ob with
      | false => rw [hck] at he; simp at he
      | true =>
        rw [hck] at he
        simp only [cond_true] at he
        have hah : aheadH h (slotsOf P A r ops.toList) = h ++ slotsOf P A r ops.toList := by cases slotsOf P A r ops.toList <;> simp [aheadH]
        rw [hah] at he
        refine wp_region_draw fun t => ?_
        have e2 := (drew_ev w g (w.drawn + 1)).trans (ahead_ev h.length (slotsOf P A r ops.toList).length)
        have hck' := chk_of hck
        have hvalid := schedule_valid hmix hck'.edges t
        obtain ⟨fr1, fr2, h1, hk, hrun2, hsame⟩ := order_free hck' hq he hvalid
        refine regionQ_sound hcall (A := A.quiet h.length) (D := a.defers) hck' (w0 := w) (g0 := g) m2.rlt (fun a' w' g' f1 f2 f3 f4 f5 => ?_) _ _ fr ob _ a _ (g.ahead h.length (slotsOf P A r ops.toList).length) hvalid (fun _ _ h => h.elim) (fun _ => .inr ⟨fun _ _ h => h.elim, rfl⟩) (fun j p t m _ _ _ hm => ?_) hrun2 ?_ (ahead_hr (m2.drew _) _) m3 rfl e2
        · refine ⟨⟨fr1, obN P (A.quiet h.length) r ops.toList ob ops.toList.length, ds, h1⟩, g', ⟨fun x => ?_, f2, f3, by rw [f4]; exact m4.mono f5.mono⟩, ev.trans f5, hk⟩
          have := f1 x
          rw [hsame x] at this
          exact this
        · have := slotPos_lt hm
          simp only [Nat.zero_add] at this
          refine Or.inr ?_
          show h.length ≤ h.length + m ∧ h.length + m < h.length + (slotsOf P A r ops.toList).length
          have e : (slotsOf P A r ops.toList).length = (A.obj.filter fun p => Nat.beq p.1 r).length := by simp [slotsOf]
          rw [e]
          exact ⟨Nat.le_add_right _ _, Nat.add_lt_add_left this _⟩
        · exact m1.mono e2.mono fun t p _ hb => ⟨hb, fun _ hb => ⟨hb, rfl, fun _ h => h⟩⟩
  | seq x y ihx ihy =>
    intro an k s a w g w0 g0 he m ev
    simp only [exec, execG, rgOf, rqOf] at he
    refine wp_seq (wp_mono (ihx _ _ _ a w g w0 g0 he (m.enter _) ev) ?_)
    intro e a' w' hp
    cases e with
    | normal =>
      obtain ⟨s', g', m', ev', hk⟩ := hp
      exact ihy _ _ _ a' w' g' w0 g0 hk (m'.enter _) ev'
    | exit id => exact hp
    | ret => exact hp
    | panic ch => exact hp
    | goto l => exact hp
    | outgrown => exact hp
  | cond c x y ihx ihy =>
    intro an k s a w g w0 g0 he m ev
    simp only [exec, execG, rgOf, rqOf] at he
    unfold condA at he
    split at he
    · rename_i t ht
      have hr := m.fr.eval (a := a) c
      rw [ht] at hr
      generalize hu : a.eval c = u at hr
      cases hr
      refine wp_cond hu ?_
      cases t with
      | true => exact ihx _ _ _ a w g w0 g0 he (m.enter _) ev
      | false => exact ihy _ _ _ a w g w0 g0 he (m.enter _) ev
    · cases he
  | block id c ih =>
    intro an k s a w g w0 g0 he m ev
    simp only [exec, execG, rgOf, rqOf] at he
    refine wp_block (wp_mono (ih _ _ _ a w g w0 g0 he (m.enter _) ev) ?_)
    intro e a' w' hp
    cases e with
    | normal => exact hp
    | exit id' =>
      obtain ⟨s', g', m', ev', hk⟩ := hp
      simp only [Exit.inBlock]
      by_cases hid : id' = id
      · subst hid
        rw [if_pos rfl]
        simp only [beq_self_eq_true, cond_true] at hk
        exact ⟨s', g', m', ev', hk⟩
      · rw [if_neg hid]
        have : (id' == id) = false := by simpa using hid
        simp only [this, cond_false] at hk
        exact ⟨s', g', m', ev', hk⟩
    | ret => exact hp
    | panic ch => exact hp
    | goto l => exact hp
    | outgrown => exact hp
  | loop c ih =>
    intro an k s a w g w0 g0 he m ev
    simp only [exec, execG, rgOf, rqOf] at he
    refine wp_rounds (fun j a w => ∃ s g, M A.nt s a w g ∧ Ev w0 g0 w g ∧ loopN (fun again s' => exec P A call n c an.a { k with normal := fun s'' => again (an.a.enter s'') } s') j s = some res) ?_ ?_ (n := n) ⟨_, g, m.enter an.a, ev, he⟩
    · rintro a w ⟨s, g, _, _, h⟩
      simp [loopN] at h
    · rintro j a w ⟨s, g, m, ev, h⟩
      simp only [loopN] at h
      refine wp_mono (ih _ _ _ a w g w0 g0 h m ev) ?_
      intro e a' w' hp
      cases e with
      | normal =>
        obtain ⟨s', g', m', ev', hk⟩ := hp
        exact ⟨_, g', m'.enter _, ev', hk⟩
      | exit id => exact hp
      | ret => exact hp
      | panic ch => exact hp
      | goto l => exact hp
      | outgrown => exact hp
  | scope c ih =>
    intro an k s a w g w0 g0 he m ev
    simp only [exec, execG, rgOf, rqOf] at he
    refine wp_scope_straight (wp_mono (ih _ _ _ a w g w0 g0 he (m.enter _) ev) ?_)
    intro e a' w' hp
    cases e with
    | normal => exact hp
    | exit id => exact hp
    | ret => exact hp
    | panic ch => exact hp
    | goto l => exact hp
    | outgrown => exact hp
end
end Go.Ve

namespace Go.Ve
open Go
theorem Rep.part {w : World} {g : Gh} {wh wh' : Wh} {x : AV} {v : Value} (h : Rep w g wh x v) (hx : x.notTup = true) (he : ∀ c, wh' 0 c = wh 0 c) : Rep w g wh' x v := by
  cases h with
  | list b off s f hn hc ha hs h1 h2 hr => exact .list b off s f hn hc ha hs h1 h2 (by rw [he]; exact hr)
  | undef => exact .undef
  | bool => exact .bool
  | int => exact .int
  | str => exact .str
  | nilPtr => exact .nilPtr
  | ptr ho => exact .ptr ho
  | rptr f h1 h2 => exact .rptr f h1 h2
  | slc hl h => exact .slc hl h
  | nilMap => exact .nilMap
  | map ho => exact .map ho
  | nilFunc => exact .nilFunc
  | func h1 h2 i1 i2 => exact .func h1 h2 i1 i2
  | nilIface => exact .nilIface
  | iface h => exact .iface h
  | agg h1 h2 => exact .agg h1 fun j c v hj hv => (by have := h2 j c v hj hv; rw [← he] at this; exact this)
  | tuple => simp [AV.notTup] at hx
def posOf (t : Nat) : List ResultVar → Nat → Option Nat
  | [], _ => none
  | .tmp t' :: l, i => if t' = t then some i else posOf t l (i + 1)
  | _ :: l, i => posOf t l (i + 1)
def goOut (rs : List ResultVar) : Loc → Loc
  | .tmp t p c => match posOf t rs 0 with
    | some i => if p = 0 then .res i c else .tmp t p c
    | none => .tmp t p c
  | l => l
theorem goOut_turn (rs : List ResultVar) : Turn (goOut rs) where
  obj _ := rfl
  cell _ _ := rfl
  back l id h := by
    cases l <;> simp [goOut] at h
    · split at h
      · split at h <;> cases h
      · cases h
    · exact congrArg _ h
theorem mem_resTmps {t : Nat} : ∀ {rs : List ResultVar} {j : Nat}, rs[j]? = some (.tmp t) → t ∈ resTmps rs
  | [], j, h => by simp at h
  | r :: l, 0, h => by simp at h; subst h; simp [resTmps]
  | r :: l, j + 1, h => by
    have := mem_resTmps (rs := l) (j := j) (by simpa using h)
    cases r <;> simp [resTmps, this]
theorem pos_at {t : Nat} : ∀ (rs : List ResultVar) (i j : Nat), nodupB (resTmps rs) = true → rs[j]? = some (.tmp t) → posOf t rs i = some (i + j)
  | [], i, j, _, h => by simp at h
  | .tmp t' :: l, i, 0, _, h => by
    simp at h
    subst h
    simp [posOf]
  | .tmp t' :: l, i, j + 1, hn, h => by
    simp only [resTmps, nodupB, Bool.and_eq_true, Bool.not_eq_true'] at hn
    have hl : l[j]? = some (.tmp t) := by simpa using h
    have hne : t' ≠ t := by
      rintro rfl
      have := mem_resTmps hl
      simp at hn
      exact hn.1 this
    unfold posOf
    rw [if_neg hne, pos_at l (i + 1) j hn.2 hl]
    congr 1; omega
  | .cell _ _ :: l, i, 0, hn, h => by simp at h
  | .cell _ _ :: l, i, j + 1, hn, h => by
    unfold posOf
    rw [pos_at l (i + 1) j hn (by simpa using h)]
    congr 1; omega
theorem seqO_get : ∀ {l : List (Option AV)} {vs : List AV}, seqO l = some vs → vs.length = l.length ∧ ∀ (j : Nat) v, vs[j]? = some v → l[j]? = some (some v)
  | [], vs, h => by simp [seqO] at h; subst h; simp
  | x :: l, vs, h => by
    simp only [seqO, Option.bind_eq_some_iff, Option.map_eq_some_iff] at h
    obtain ⟨v, rfl, vs', h1, rfl⟩ := h
    obtain ⟨h2, h3⟩ := seqO_get h1
    refine ⟨by simp [h2], fun j u hj => ?_⟩
    cases j with
    | zero => simp at hj; subst hj; simp
    | succ j => simpa using h3 j u (by simpa using hj)
section
variable {P : Program} {w : World} {g : Gh}
def machineResult (P : Program) (w : World) (tmps : Array Value) : ResultVar → Value
  | .tmp t => tmps.getD t undef
  | .cell a t => match (do loadVar t (← asAddr (tmps.getD a undef)) : Sem Value).run P w with
    | .ok v _ => v
    | _ => undef
def resSem (tmps : Array Value) : ResultVar → Sem Value
  | .tmp t => pure (tmps.getD t undef)
  | .cell x t => do loadVar t (← asAddr (tmps.getD x undef))
theorem results_eq (fn : Func) (tmps : Array Value) : Go.results fn tmps = (do
    let vs ← fn.results.mapM (resSem tmps)
    pure (if h : vs.size = 1 then vs[0] else .tuple vs)) := rfl
theorem result_ok {nt : Nat} {s : St} {a : Act} (m : M nt s a w g) {rs : List ResultVar} (hnd : nodupB (resTmps rs) = true) {j : Nat} {r : ResultVar} (hj : rs[j]? = some r) {v : AV} (he : resultOf P s r = some v) (hv : v.notTup = true) :
    (resSem a.tmps r).run P w = .ok (machineResult P w a.tmps r) w ∧ Rep w (g.map (goOut rs)) (fun _ c => some (.res j c)) v (machineResult P w a.tmps r) := by
  have tn := goOut_turn rs
  cases r with
  | tmp t =>
    refine ⟨rfl, ?_⟩
    simp only [resultOf, Option.some.injEq] at he
    have hr := m.fr t
    unfold hold at he
    cases hb : (getM t s.ob).testBit 0 with
    | false =>
      rw [hb] at he
      simp only [cond_false] at he
      subst he
      exact (tn.rep hr (wh' := wh0) (fun p c l' hl => by cases hl)).copy
    | true =>
      rw [hb] at he
      simp only [cond_true] at he
      subst he
      have hp := pos_at rs 0 j hnd hj
      rw [Nat.zero_add] at hp
      have := tn.rep hr (wh' := fun p c => if p = 0 then some (.res j c) else none) (fun p c l' hl => by
        split at hl
        · rename_i hp0
          subst hp0
          cases hl
          exact ⟨.tmp t 0 c, by simp [whT, hb], by simp [goOut, hp]⟩
        · cases hl)
      exact this.part hv (fun c => by simp)
  | cell x t =>
    simp only [resultOf, Option.map_eq_some_iff] at he
    obtain ⟨v0, hld, rfl⟩ := he
    have hx := (m.fr x).weak
    obtain ⟨u, h1, h2⟩ := load_sound (P := P) m.hr hx hld
    have hptr : ∃ ad, a.tmps.getD x undef = .pointer (some ad) := by
      clear h1 h2
      generalize a.tmps.getD x undef = ux at hx
      generalize getV x s.fr = vx at hx hld
      unfold load at hld
      split at hld
      · simp only [ldAgg, Option.bind_eq_some_iff] at hld
        obtain ⟨p, hp, _⟩ := hld
        cases hx <;> simp [cellsAt] at hp
        · exact ⟨_, rfl⟩
        · exact ⟨_, rfl⟩
      · split at hld
        · simp only [ldCell, Option.bind_eq_some_iff] at hld
          obtain ⟨p, hp, _⟩ := hld
          cases hx <;> simp [cellsAt] at hp
          · exact ⟨_, rfl⟩
          · exact ⟨_, rfl⟩
        · cases hld
    obtain ⟨ad, had⟩ := hptr
    have hrun : (do loadVar t (← asAddr (a.tmps.getD x undef)) : Sem Value).run P w = .ok u w := by
      rw [had] at h1 ⊢
      simp only [Instr.loadAt, Instr.sureAddr] at h1
      simpa [asAddr] using h1
    refine ⟨?_, ?_⟩
    · simp only [machineResult, hrun, resSem]
    · simp only [machineResult, hrun]
      exact (tn.rep h2 (wh' := wh0) (fun p c l' hl => by cases hl)).copy
theorem results_ok {nt : Nat} {s : St} {a : Act} (m : M nt s a w g) {fn : Func} (hok : resOk fn = true) {v : AV} (he : results P fn s = some v) (hv : retOk fn (.ret v) = true) :
    ∃ u g', (Go.results fn a.tmps).run P w = .ok u w ∧ Ev w g w g' ∧ HR w g' s.h ∧ Rep w g' (fun p c => some (.res p c)) v u := by
  have tn := goOut_turn fn.results.toList
  simp only [resOk, Bool.and_eq_true] at hok
  have hok := hok.1
  have run : ∀ (hall : ∀ r ∈ fn.results.toList, ∃ (v : AV) (j : Nat), fn.results.toList[j]? = some r ∧ resultOf P s r = some v ∧ v.notTup = true),
      (Go.results fn a.tmps).run P w = .ok (if h : (fn.results.map (machineResult P w a.tmps)).size = 1 then (fn.results.map (machineResult P w a.tmps))[0] else .tuple (fn.results.map (machineResult P w a.tmps))) w := by
    intro hall
    have hm := run_mapM_array (P := P) (w := w) (resSem a.tmps) (machineResult P w a.tmps) fn.results (fun r hr => by
        obtain ⟨v, j, h1, h2, h3⟩ := hall r (by simpa using hr)
        exact (result_ok m hok h1 h2 h3).1)
    rw [results_eq, Sem.run_bind, hm]
    rfl
  unfold results at he
  cases hrs : fn.results.toList with
  | nil =>
    rw [hrs] at he run
    simp [resN, seqO] at he
    subst he
    have h0 : fn.results = #[] := by rw [← Array.toList_inj]; exact hrs
    refine ⟨_, _, run (by simp), tn.ev, tn.hr m.hr, ?_⟩
    rw [dif_neg (by simp [h0])]
    exact .tuple (by simp [h0]) (by simp)
  | cons r rs =>
    have h0 : fn.results.size = rs.length + 1 := by rw [← Array.length_toList, hrs]; rfl
    cases rs with
    | nil =>
      rw [hrs] at he
      simp only [List.map_cons, List.map_nil, resN] at he
      have hnt : v.notTup = true := by
        cases v <;> first | rfl | skip
        simp [retOk, h0] at hv
      have ha : fn.results = #[r] := by rw [← Array.toList_inj]; exact hrs
      obtain ⟨h1, h2⟩ := result_ok m hok (j := 0) (r := r) (by rw [hrs]; rfl) he hnt
      refine ⟨_, _, run (fun r' hr' => by rw [hrs] at hr'; simp at hr'; subst hr'; exact ⟨v, 0, by rw [hrs]; rfl, he, hnt⟩), tn.ev, tn.hr m.hr, ?_⟩
      simp only [ha]
      rw [dif_pos (by simp)]
      simpa [ha] using h2.part hnt (fun c => rfl)
    | cons r2 rs2 =>
      have hm : resN (fn.results.toList.map (resultOf P s)) = (seqO (fn.results.toList.map (resultOf P s))).map .tuple := by rw [hrs]; rfl
      rw [hm] at he
      simp only [Option.map_eq_some_iff] at he
      obtain ⟨vs, hvs, rfl⟩ := he
      obtain ⟨s1, s2⟩ := seqO_get hvs
      simp only [retOk, Bool.and_eq_true, List.all_eq_true] at hv
      have at_ : ∀ (j : Nat) r', fn.results.toList[j]? = some r' → ∃ v, vs[j]? = some v ∧ resultOf P s r' = some v ∧ v.notTup = true := by
        intro j r' hj
        have hl : j < vs.length := by rw [s1, List.length_map]; exact (List.getElem?_eq_some_iff.1 hj).1
        have h1 := s2 j vs[j] (by simp [hl])
        rw [List.getElem?_map, hj] at h1
        exact ⟨vs[j], by simp [hl], by simpa using h1, hv.2 _ (by simp)⟩
      refine ⟨_, _, run (fun r' hr' => by
        obtain ⟨j, hj⟩ := List.getElem?_of_mem hr'
        obtain ⟨v, _, h1, h2⟩ := at_ j r' hj
        exact ⟨v, j, hj, h1, h2⟩), tn.ev, tn.hr m.hr, ?_⟩
      rw [dif_neg (by simp [h0])]
      refine .tuple (by simp [s1]) fun i x u hx hu => ?_
      simp only [Array.getElem?_map, Option.map_eq_some_iff] at hu
      obtain ⟨r', hr', rfl⟩ := hu
      obtain ⟨v, h1, h2, h3⟩ := at_ i r' (by simpa using hr')
      rw [hx] at h1
      cases h1
      exact (result_ok m hok (j := i) (by simpa using hr') h2 h3).2
end
end Go.Ve

namespace Go.Ve
open Go
theorem getV_arg : ∀ (args : List AV) (i t : Nat), getV t (argFr i args) = if i ≤ t then (args[t - i]?).getD .undef else .undef
  | [], i, t => by simp [argFr, getV]
  | v :: l, i, t => by
    simp only [argFr, getV]
    by_cases h : i = t
    · subst h; simp
    · rw [beq_no h, cond_false, getV_arg l (i + 1) t]
      by_cases h2 : i ≤ t
      · rw [if_pos h2, if_pos (by omega), show t - i = (t - (i + 1)) + 1 by omega]
        simp
      · rw [if_neg h2, if_neg (by omega)]
def BPost (w : World) (g : Gh) (r : AEnd × H) : Ending → World → Prop
  | .returned u, w' => ∃ v g', r.1 = .ret v ∧ Ev w g w' g' ∧ HR w' g' r.2 ∧ Rep w' g' (fun p c => some (.res p c)) v u
  | .panicked chain, w' => ∃ v u g', r.1 = .pan v ∧ chain = [{ v := u, recovered := false }] ∧ Ev w g w' g' ∧ HR w' g' r.2 ∧ Rep w' g' wh0 v u
  | .outgrown, _ => False
section
variable {P : Program} {w : World} {g : Gh} {h : H}
theorem whT_nil (t : Nat) : whT [] t = wh0 := by funext p c; simp [whT, getM, wh0]
def Loc.mine : Loc → Bool
  | .tmp _ _ _ | .res _ _ => true
  | _ => false
def Gh.strip (g : Gh) : Gh := ⟨fun b => match g.own b with
  | some l => if l.mine then none else some l
  | none => none, g.st, g.rsv⟩
def Gh.merge (g g' : Gh) : Gh := ⟨fun b => match g.own b with
  | some l => if l.mine then some l else g'.own b
  | none => g'.own b, g'.st, g'.rsv⟩
theorem strip_own {b : Nat} {l : Loc} : g.strip.own b = some l ↔ g.own b = some l ∧ l.mine = false := by
  unfold Gh.strip
  simp only
  split
  · rename_i l' hl
    rw [hl]
    split
    · rename_i hm
      constructor
      · intro h; cases h
      · rintro ⟨h, h2⟩; cases h; rw [hm] at h2; cases h2
    · rename_i hm
      constructor
      · intro h; cases h; exact ⟨rfl, by simpa using hm⟩
      · rintro ⟨h, _⟩; exact h
  · rename_i hl
    rw [hl]; simp
theorem strip_mine {b : Nat} {l : Loc} (h : g.own b = some l) (hm : l.mine = true) : g.strip.own b = none := by
  cases hs : g.strip.own b with
  | none => rfl
  | some l' =>
    have := strip_own.1 hs
    rw [h] at this
    cases this.1
    rw [hm] at this
    cases this.2
theorem strip_none {b : Nat} (h : g.own b = none) : g.strip.own b = none := by
  cases hs : g.strip.own b with
  | none => rfl
  | some l' => have := (strip_own.1 hs).1; rw [h] at this; cases this
theorem strip_mono : Mono w g w g.strip := ⟨fun _ _ h => ⟨h, rfl⟩, fun b id h => strip_own.2 ⟨h, rfl⟩⟩
theorem HR.strip (hH : HR w g h) : HR w g.strip h :=
  ⟨fun id o hid ht => (hH.obj id o hid (by obtain ⟨b, hb⟩ := ht; exact ⟨b, (strip_own.1 hb).1⟩)).mono strip_mono (fun _ _ => ⟨rfl, fun _ h => h⟩) (fun _ _ hb => ⟨strip_own.2 ⟨hb, rfl⟩, rfl, fun _ h => h⟩),
   fun b b' id h1 h2 => hH.inj b b' id (strip_own.1 h1).1 (strip_own.1 h2).1, fun b l h1 => hH.lt b l (strip_own.1 h1).1, fun b id h1 => hH.bd b id (strip_own.1 h1).1, hH.stlt, fun b id h1 => hH.rsv b id (strip_own.1 h1).1, hH.rlt⟩
theorem ArgsRep.strip {args : List AV} {vals : Array Value} (ha : ArgsRep w g args vals) : ArgsRep w g.strip args vals := ⟨ha.1, fun j x v hx hv => (ha.2 j x v hx hv).mono strip_mono Moves.none⟩
section
variable {w' : World} {g' : Gh} {h' : H}
theorem merge_mine {b : Nat} {l : Loc} (h : g.own b = some l) (hm : l.mine = true) : (g.merge g').own b = some l := by
  simp [Gh.merge, h, hm]
theorem merge_else {b : Nat} (h : ∀ l, g.own b = some l → l.mine = false) : (g.merge g').own b = g'.own b := by
  unfold Gh.merge
  simp only
  split
  · rename_i l hl
    rw [if_neg (by rw [h l hl]; simp)]
  · rfl
theorem merge_of (hH : HR w g h) (ev : Ev w g.strip w' g') {b : Nat} {l : Loc} (hb : g'.own b = some l) : (g.merge g').own b = some l := by
  rw [merge_else, hb]
  intro l' hl'
  cases hm : l'.mine with
  | false => rfl
  | true =>
    have := (ev.old b (hH.lt b _ hl') (strip_mine hl' hm)).1
    rw [hb] at this; cases this
theorem merge_back {b : Nat} {l : Loc} (hb : (g.merge g').own b = some l) : (g.own b = some l ∧ l.mine = true) ∨ g'.own b = some l := by
  unfold Gh.merge at hb
  simp only at hb
  split at hb
  · rename_i l' hl'
    split at hb
    · rename_i hm; cases hb; exact .inl ⟨hl', hm⟩
    · exact .inr hb
  · exact .inr hb
theorem merge_mono (hH : HR w g h) (ev : Ev w g.strip w' g') : Mono w' g' w' (g.merge g') := ⟨fun _ _ h => ⟨h, rfl⟩, fun _ _ hb => merge_of hH ev hb⟩
theorem merge_keeps (hH : HR w g h) (ev : Ev w g.strip w' g') (l : Loc) : Keeps w' g' w' (g.merge g') l l := fun _ hb => ⟨merge_of hH ev hb, rfl, fun _ h => h⟩
theorem merge_rep (hH : HR w g h) (ev : Ev w g.strip w' g') {wh : Wh} {x : AV} {v : Value} (hr : Rep w' g' wh x v) : Rep w' (g.merge g') wh x v := hr.mono (merge_mono hH ev) fun _ _ l hl => ⟨l, hl, merge_keeps hH ev l⟩
theorem merge_hr (hH : HR w g h) (ev : Ev w g.strip w' g') (hH' : HR w' g' h') : HR w' (g.merge g') h' where
  obj id o hid ht := (hH'.obj id o hid (by obtain ⟨b, hb⟩ := ht; rcases merge_back hb with ⟨_, hm⟩ | hb; cases hm; exact ⟨b, hb⟩)).mono (merge_mono hH ev) (fun _ _ => ⟨rfl, fun _ h => h⟩) (fun _ => merge_keeps hH ev _)
  inj b b' id h1 h2 := by
    rcases merge_back h1 with ⟨_, hm⟩ | h1
    · cases hm
    · rcases merge_back h2 with ⟨_, hm⟩ | h2
      · cases hm
      · exact hH'.inj b b' id h1 h2
  lt b l h1 := by
    rcases merge_back h1 with ⟨h1, _⟩ | h1
    · exact Nat.lt_of_lt_of_le (hH.lt b l h1) ev.size
    · exact hH'.lt b l h1
  bd b id h1 := by
    rcases merge_back h1 with ⟨_, hm⟩ | h1
    · cases hm
    · exact hH'.bd b id h1
  stlt := hH'.stlt
  rsv b id h1 := by
    rcases merge_back h1 with ⟨_, hm⟩ | h1
    · cases hm
    · exact hH'.rsv b id h1
  rlt := hH'.rlt
theorem merge_ev (hH : HR w g h) (ev : Ev w g.strip w' g') : Ev w g w' (g.merge g') where
  size := ev.size
  st := ev.st
  obj b id hb := merge_of hH ev (ev.obj b id (strip_own.2 ⟨hb, rfl⟩))
  old b hlt hb := by
    obtain ⟨h1, h2, h3⟩ := ev.old b hlt (strip_none hb)
    refine ⟨?_, h2, h3⟩
    rw [merge_else (by intro l hl; rw [hb] at hl; cases hl)]
    exact h1
  os := ev.os
  out := ev.out
  rsv id h := ev.rsv id h
theorem merge_tmp (hH : HR w g h) (ev : Ev w g.strip w' g') (t p c : Nat) : Keeps w g w' (g.merge g') (.tmp t p c) (.tmp t p c) := fun b hb => by
  obtain ⟨_, h2, h3⟩ := ev.old b (hH.lt b _ hb) (strip_mine hb rfl)
  exact ⟨merge_mine hb rfl, h2, h3⟩
end
theorem callFunc_enter {f : FuncId} {fn : Func} {c : Code} (hf : P.funcs[f]? = some fn) (hb : fn.body = some c) (hok : resOk fn = true) (vals : Array Value) : (callFunc f vals).run P w = .ok (.enter f vals) w := by
  simp only [resOk, Bool.and_eq_true, bne_iff_ne, ne_eq] at hok
  simp [callFunc, hf, hok.2, hb]
theorem wpS_mono {c : Code} {Q Q' : Exit → Act → List Frame → World → Prop} {a : Act} {cs : List Frame} (h : c.wpS P Q a cs w) (hm : ∀ e a cs w, Q e a cs w → Q' e a cs w) : c.wpS P Q' a cs w :=
  fun b k hb hr => let ⟨e, a', cs', w', q, r⟩ := h b k hb hr; ⟨e, a', cs', w', hm _ _ _ _ q, r⟩
def Recovers (cs : List Frame) (v : Value) (cs' : List Frame) : Prop := recoverD cs = some (v, cs') ∨ (recoverD cs = none ∧ v = .nilIface ∧ cs' = cs)
theorem wpS_recover {Q : Exit → Act → List Frame → World → Prop} {a : Act} {cs cs' : List Frame} {id : Nat} {ops : Array Oper} {o : Oper} {v : Value}
    (h0 : ops[0]? = some o) (hg : o.guard = none) (hr : (execOp a.eval o).run P w = .ok .recover w) (hrec : Recovers cs v cs')
    (h : wpOps P ops (fun e a' w' => Q e a' cs' w') (List.range' 1 (ops.size - 1)) (a.put o.dst v) w) : (Code.region id ops false).wpS P Q a cs w := by
  intro b k hb hro
  obtain ⟨e, a', w', hq, harr⟩ := wp_ops _ _ _ h b k cs'
  have hsz : 0 < ops.size := (Array.getElem?_eq_some_iff.1 h0).1
  have hl : List.range ops.size = 0 :: List.range' 1 (ops.size - 1) := by
    conv => lhs; rw [List.range_eq_range', show ops.size = (ops.size - 1) + 1 by omega, List.range'_succ]
  have hs := step_region (P := P) (b := b) (a := a) (k := k) (cs := cs) (w := w) (ops := ops) (id := id)
  rw [hl] at hs
  refine ⟨e, a', cs', w', hq, .of_steps (.head hs (.one ?_)) harr⟩
  have hw : Region.wanted o (yielded ops a.tmps) = true := by simp [Region.wanted, hg]
  have hgo := stepG_op (P := P) (b := b) (k := k) (cs := cs) (w := w) (rest := List.range' 1 (ops.size - 1)) h0 hw
  have hfin : ∀ v, (b.at a (.inRegion ops (0 :: List.range' 1 (ops.size - 1)) :: k)).finish v = b.at (a.put o.dst v) (.inRegion ops (List.range' 1 (ops.size - 1)) :: k) := by
    intro v; rw [Frame.finish_at, h0]; rfl
  have hk : (b.at a (.inRegion ops (0 :: List.range' 1 (ops.size - 1)) :: k)).kind = .deferred := hb
  have htr := tryRecover_deferred hk cs
  refine step_lone_go ?_
  rw [hgo, ← hfin]
  simp only [Frame.at] at htr ⊢
  rcases hrec with hrec | ⟨hrec, rfl, rfl⟩
  · simp [stepG.apply, hr, htr, hrec]
  · simp [stepG.apply, hr, htr, hrec]
theorem isRecover_run {o : Oper} (h : isRecover o = true) (ρ : Operand → Value) : o.guard = none ∧ (execOp ρ o).run P w = .ok .recover w := by
  unfold isRecover at h
  split at h
  · rename_i ho hg
    exact ⟨hg, by simp [execOp, ho, resolve, invoke, builtin]⟩
  · cases h
theorem execD_sound {R : Type} {call : Cl} (hcall : CallOk P call) {A : FAnn} (hdr : A.drawn = false) (hmix : P.follows .mixedOrders = true) (hq : ∀ f ∈ A.q, Still call f) {n : Nat} {res : R} {cs cs' : List Frame} {x : Value} (hrec : Recovers cs x cs') {v : AV} : ∀ (c : Code) (an : Ann) (k : K R) (s : St) (a : Act) (w : World) (g : Gh) (w0 : World) (g0 : Gh),
    execD P A call n c an k v s = some res → M A.nt s a w g → Rep w g wh0 v x → Ev w0 g0 w g → c.wpS P (fun e a' cs1 w' => cs1 = cs' ∧ Post k res A.nt w0 g0 e a' w') a cs w := by
  intro c
  induction c with
  | region r ops draw =>
    intro an k s a w g w0 g0 he m hx ev
    cases draw with
    | true => simp [execD] at he
    | false =>
      simp only [execD, regionD] at he
      cases hops : ops.toList with
      | nil => rw [hops] at he; cases he
      | cons o rest =>
        rw [hops] at he
        simp only at he
        cases hr : isRecover o with
        | false => rw [hr] at he; cases he
        | true =>
          rw [hr] at he
          simp only [cond_true] at he
          rw [← hops] at he
          have he := regionC_plain _ _ _ _ _ he
          have h0 : ops[0]? = some o := by rw [← Array.getElem?_toList, hops]; rfl
          obtain ⟨hg, hrun⟩ := isRecover_run (P := P) (w := w) hr a.eval
          refine wpS_recover h0 hg hrun hrec ?_
          have hen : (enum 0 ops.toList).tail = (List.range' 1 (ops.size - 1)).filterMap fun i => (ops[i]?).map fun o => (i, o) := by
            have h1 := enum_range ops
            have hsz : ops.size = rest.length + 1 := by rw [← Array.length_toList, hops]; rfl
            have h2 : List.range ops.size = 0 :: List.range' 1 (ops.size - 1) := by
              conv => lhs; rw [List.range_eq_range', show ops.size = (ops.size - 1) + 1 by omega, List.range'_succ]
            rw [h2] at h1
            unfold ordered at h1
            rw [List.filterMap_cons, h0] at h1
            simp only [Option.map_some] at h1
            rw [← h1]; rfl
          rw [hen] at he
          have hput : FR w g (putV A.nt o.dst v s.fr) (putM o.dst 0 s.ob) (a.put o.dst x).tmps := by
            refine m.fr.put m.size (hx.mono (.refl w g) fun p c l hl => ?_)
            exfalso
            unfold whD at hl
            split at hl
            · simp at hl
            · cases hl
          have := region_sound (r := r) hcall hdr (k := k) (res := res) (A := A) _ _ _ _ _ (a.put o.dst x) w g w0 g0 he hput m.hr (by rw [put_size]; exact m.size) (by rw [put_defers]; exact m.df) ev
          show wpOps P ops (fun e a' w' => cs' = cs' ∧ Post k res A.nt w0 g0 e a' w') _ _ _
          have hQ : (fun e a' w' => cs' = cs' ∧ Post k res A.nt w0 g0 e a' w') = Post k res A.nt w0 g0 := by funext e a' w'; simp
          rw [hQ]
          exact this
  | seq c1 c2 ih1 ih2 =>
    intro an k s a w g w0 g0 he m hx ev
    simp only [execD] at he
    refine wpS_seq (wpS_mono (ih1 _ _ _ a w g w0 g0 he (m.enter _) hx ev) ?_)
    rintro e a' cs1 w' ⟨rfl, hp⟩
    cases e with
    | normal =>
      obtain ⟨s', g', m', ev', hk⟩ := hp
      exact wpS_of_wp (wp_mono (exec_sound hcall hdr hmix hq _ _ _ _ a' w' g' w0 g0 hk (m'.enter _) ev') fun e a' w' hp => ⟨rfl, hp⟩)
    | exit id => exact ⟨rfl, hp⟩
    | ret => exact ⟨rfl, hp⟩
    | panic ch => exact ⟨rfl, hp⟩
    | goto l => exact ⟨rfl, hp⟩
    | outgrown => exact ⟨rfl, hp⟩
  | _ => intro an k s a w g w0 g0 he m hx ev; simp [execD] at he
theorem DefsRep.nil {es : List Deferred} (h : DefsRep w g [] es) : es = [] := by
  cases es with
  | nil => rfl
  | cons e es => exact h.elim
def Below1 (u u' : FrameMode) (x : Value) : Prop := (u = .returning ∧ x = .nilIface ∧ u' = .returning) ∨ (u = .panicking [{ v := x, recovered := false }] ∧ u' = .panicking [{ v := x, recovered := true }])
theorem Below1.recovers {u u' : FrameMode} {x : Value} (h : Below1 u u' x) {c : Frame} (hc : c.mode = u) (cs : List Frame) : Recovers (c :: cs) x ({ c with mode := u' } :: cs) := by
  rcases h with ⟨rfl, rfl, rfl⟩ | ⟨rfl, rfl⟩
  · exact .inr ⟨by simp [recoverD, hc], rfl, by rw [← hc]⟩
  · exact .inl (by simp [recoverD, hc])
theorem dcall_raw {call : Cl} (hcall : CallOk P call) {A : FAnn} (hmix : P.follows .mixedOrders = true) {n : Nat} {f : FuncId} {args : List AV} {h h' : H} {v : AV} (he : dcall P A call n f args h v = some h') {vals : Array Value} (hH : HR w g h) (ha : ArgsRep w g args vals) {u u' : FrameMode} {x : Value} (hu : Below1 u u' x) (hx : Rep w g wh0 v x) :
    (callFunc f vals).run P w = .ok (.enter f vals) w ∧ CallsD P f vals u w fun e u1 w' => u1 = u' ∧ ∃ r, e = .returned r ∧ ∃ g', Ev w g w' g' ∧ HR w' g' h' := by
  unfold dcall at he
  split at he
  · rename_i d fn hd hf
    split at he
    · rename_i c hb
      split at he
      · rename_i hok
        simp only [Bool.and_eq_true] at hok
        obtain ⟨⟨hok1, hle⟩, hsz⟩ := hok
        have hle := Nat.le_of_ble_eq_true hle
        refine ⟨callFunc_enter hf hb hok1 vals, callsD_of_wpS hf hb fun c₀ cs hc => ?_⟩
        have m : M fn.ntmps ⟨argFr 0 args, [], [], h⟩ { tmps := vals ++ Array.replicate (fn.ntmps - vals.size) undef, defers := [] } w g := by
          refine ⟨fun t => ?_, hH, by simp; omega, trivial⟩
          rw [whT_nil, getV_arg, if_pos (Nat.zero_le _), Nat.sub_zero]
          by_cases ht : t < args.length
          · have h1 : args[t]? = some args[t] := by simp [ht]
            have htv : t < vals.size := by rw [ha.1]; exact ht
            rw [h1]
            simp only [Option.getD_some]
            have h2 : vals[t]? = some vals[t] := by simp [htv]
            have h3 : (vals ++ Array.replicate (fn.ntmps - vals.size) undef).getD t undef = vals[t] := by
              rw [Array.getD_eq_getD_getElem?, Array.getElem?_append_left htv, h2]; rfl
            simp only [h3]
            exact ha.2 t _ _ h1 h2
          · have h1 : args[t]? = none := by simp; omega
            rw [h1]
            exact .undef
        refine wpS_mono (execD_sound hcall (A := { d.toF with nt := fn.ntmps }) rfl hmix (fun f hf => by cases hf) (hu.recovers hc cs) c _ _ _ _ w g w g he (m.enter d.an) hx (.refl w g)) ?_
        rintro e a' cs1 w' ⟨rfl, hp⟩
        have hres : (Go.results fn a'.tmps).run P w' = .ok (.tuple #[]) w' := by
          have h0 : fn.results = #[] := Array.size_eq_zero_iff.1 (Nat.eq_of_beq_eq_true hsz)
          simp [Go.results, h0]
        have fin : ∀ s g', M fn.ntmps s a' w' g' → Ev w g w' g' → doneD s = some h' → a'.defers = [] ∧ ∃ g', Ev w g w' g' ∧ HR w' g' h' := by
          intro s g' m' ev hfin
          unfold doneD at hfin
          split at hfin
          · rename_i hds
            cases hfin
            have := m'.df
            rw [hds] at this
            exact ⟨this.nil, g', ev, m'.hr⟩
          · cases hfin
        cases e with
        | normal => obtain ⟨s, g', m', ev, hk⟩ := hp; obtain ⟨h1, h2⟩ := fin s g' m' ev hk; exact ⟨h1, u', rfl, _, hres, rfl, _, rfl, h2⟩
        | ret => obtain ⟨s, g', m', ev, hk⟩ := hp; obtain ⟨h1, h2⟩ := fin s g' m' ev hk; exact ⟨h1, u', rfl, _, hres, rfl, _, rfl, h2⟩
        | exit id => obtain ⟨s, g', m', ev, hk⟩ := hp; cases hk
        | panic chain => obtain ⟨s, g', v, u, m', ev, hch, hr, hk⟩ := hp; cases hk
        | goto l => exact hp
        | outgrown => exact hp.elim
      · cases he
    · cases he
  · cases he
theorem dcall_sound {call : Cl} (hcall : CallOk P call) {A : FAnn} (hmix : P.follows .mixedOrders = true) {n : Nat} {f : FuncId} {args : List AV} {h h' : H} {v : AV} (he : dcall P A call n f args h v = some h') {vals : Array Value} (hH : HR w g h) (ha : ArgsRep w g args vals) {u u' : FrameMode} {x : Value} (hu : Below1 u u' x) (hx : Rep w g wh0 v x) :
    (callFunc f vals).run P w = .ok (.enter f vals) w ∧ CallsD P f vals u w fun e u1 w' => u1 = u' ∧ ∃ r, e = .returned r ∧ ∃ g', Ev w g w' g' ∧ HR w' g' h' ∧ ∀ t p c, Keeps w g w' g' (.tmp t p c) (.tmp t p c) := by
  obtain ⟨h1, h2⟩ := dcall_raw hcall hmix he hH.strip ha.strip hu (hx.mono strip_mono Moves.none)
  refine ⟨h1, h2.mono ?_⟩
  rintro e u1 w' ⟨e1, r, e2, g', ev, hH'⟩
  exact ⟨e1, r, e2, _, merge_ev hH ev, merge_hr hH ev hH', merge_tmp hH ev⟩
theorem leave_sound {call : Cl} (hcall : CallOk P call) {A : FAnn} (hmix : P.follows .mixedOrders = true) {n : Nat} {fn : Func} (hok : resOk fn = true) {nt : Nat} {fr : List (Nat × AV)} {ob : List (Nat × Nat)} {tmps : Array Value} (hn : nt ≤ tmps.size) {r : AEnd × H} (hro : retOk fn r.1 = true) {w0 : World} {g0 : Gh} :
    ∀ (ds : List ADef) (es : List Deferred) (m : Option AV) (u : FrameMode) (h : H) (w : World) (g : Gh), leaveA P (dcall P A call n) fn ds m fr ob h = some r → FR w g fr ob tmps → HR w g h → DefsRep w g ds es →
    ((m = none ∧ u = .returning) ∨ ∃ v x, m = some v ∧ u = .panicking [{ v := x, recovered := false }] ∧ Rep w g wh0 v x) → Ev w0 g0 w g → Leaves P fn tmps (BPost w0 g0 r) es u w
  | [], es, m, u, h, w, g, he, hF, hH, hd, hm, ev => by
    obtain rfl := hd.nil
    rcases hm with ⟨rfl, rfl⟩ | ⟨v, x, rfl, rfl, hx⟩
    · simp only [leaveA, Option.map_eq_some_iff] at he
      obtain ⟨v, hv, rfl⟩ := he
      obtain ⟨u, g2, h1, h2, h3, h4⟩ := results_ok (nt := nt) (s := ⟨fr, ob, [], h⟩) (a := { tmps := tmps, defers := [] }) ⟨hF, hH, hn, trivial⟩ hok hv hro
      exact ⟨u, h1, v, g2, rfl, ev.trans h2, h3, h4⟩
    · simp only [leaveA, Option.some.injEq] at he
      subst he
      exact ⟨v, x, g, rfl, rfl, ev, hH, hx⟩
  | d :: ds, [], m, u, h, w, g, he, hF, hH, hd, hm, ev => hd.elim
  | d :: ds, e :: es, m, u, h, w, g, he, hF, hH, hd, hm, ev => by
    obtain ⟨⟨cap, ht, ha⟩, hds⟩ := hd
    have key : ∀ (v : AV) (x : Value) (u' : FrameMode), Below1 u u' x → Rep w g wh0 v x → settle u' = .returning → ((dcall P A call n d.f d.args h v).bind fun h' => leaveA P (dcall P A call n) fn ds none fr ob h') = some r → Leaves P fn tmps (BPost w0 g0 r) (e :: es) u w := by
      intro v x u' hb hx hs he
      rw [Option.bind_eq_some_iff] at he
      obtain ⟨h', hdc, he⟩ := he
      obtain ⟨h1, h2⟩ := dcall_sound hcall hmix hdc hH ha hb hx
      refine ⟨?_, .func d.f, cap, d.f, e.args ++ cap, ht, ?_, h2.mono ?_⟩
      · rcases hb with ⟨rfl, _⟩ | ⟨rfl, _⟩ <;> simp
      · rw [ht]; exact h1
      · rintro e1 u1 w' ⟨rfl, r', rfl, g', ev', hH', keep⟩
        simp only
        rw [hs]
        exact leave_sound hcall hmix hok hn hro ds es none .returning h' w' g' he (hF.mono ev'.mono fun t p c hb => ⟨hb, keep t p c⟩) hH' (hds.mono ev'.mono) (.inl ⟨rfl, rfl⟩) (ev.trans ev')
    rcases hm with ⟨rfl, rfl⟩ | ⟨v, x, rfl, rfl, hx⟩
    · exact key .nilIface .nilIface .returning (.inl ⟨rfl, rfl, rfl⟩) .nilIface rfl he
    · exact key v x _ (.inr ⟨rfl, rfl⟩) hx rfl he
end
end Go.Ve

namespace Go.Ve
open Go
section
variable {P : Program} {w : World} {g : Gh} {h : H}
theorem body_sound {call : Cl} (hcall : CallOk P call) {A : FAnn} {f : FuncId} {fn : Func} {an : Ann} {n : Nat} {c : Code} {args : List AV} {r : AEnd × H} (hf : P.funcs[f]? = some fn) (hb : fn.body = some c) (hmix : P.follows .mixedOrders = true) (hq : ∀ f ∈ A.q, Still call f)
    (hok : resOk fn = true) (hle : args.length ≤ fn.ntmps) (hro : retOk fn r.1 = true) (he : body P A call fn an n c args h = some r) {vals : Array Value} (hH : HR w g h) (ha : ArgsRep w g args vals) : Calls P f vals w (BPost w g r) := by
  refine calls_of_wp_defers hf hb ?_
  have m : M (A.fit fn).nt ⟨argFr 0 args, [], [], h⟩ { tmps := vals ++ Array.replicate (fn.ntmps - vals.size) undef, defers := [] } w g := by
    refine ⟨fun t => ?_, hH, by simp [FAnn.fit]; omega, trivial⟩
    rw [whT_nil, getV_arg, if_pos (Nat.zero_le _), Nat.sub_zero]
    by_cases ht : t < args.length
    · have h1 : args[t]? = some args[t] := by simp [ht]
      have htv : t < vals.size := by rw [ha.1]; exact ht
      rw [h1]
      simp only [Option.getD_some]
      have h2 : vals[t]? = some vals[t] := by simp [htv]
      have h3 : (vals ++ Array.replicate (fn.ntmps - vals.size) undef).getD t undef = vals[t] := by
        rw [Array.getD_eq_getD_getElem?, Array.getElem?_append_left htv, h2]; rfl
      simp only [h3]
      exact ha.2 t _ _ h1 h2
    · have h1 : args[t]? = none := by simp; omega
      rw [h1]
      exact .undef
  have ex := exec_sound hcall (A := A.fit fn) rfl hmix hq c an (kTop P A call n fn) _ _ w g w g he (m.enter an) (.refl w g)
  refine wp_mono ex ?_
  intro e a' w' hp
  cases e with
  | normal => obtain ⟨s, g', m', ev, hk⟩ := hp; exact leave_sound hcall hmix hok m'.size hro _ _ _ _ _ _ _ hk m'.fr m'.hr m'.df (.inl ⟨rfl, rfl⟩) ev
  | ret => obtain ⟨s, g', m', ev, hk⟩ := hp; exact leave_sound hcall hmix hok m'.size hro _ _ _ _ _ _ _ hk m'.fr m'.hr m'.df (.inl ⟨rfl, rfl⟩) ev
  | exit id => obtain ⟨s, g', m', ev, hk⟩ := hp; cases hk
  | panic chain =>
    obtain ⟨s, g', v, u, m', ev, rfl, hr, hk⟩ := hp
    exact leave_sound hcall hmix hok m'.size hro _ _ _ _ _ _ _ hk m'.fr m'.hr m'.df (.inr ⟨v, u, rfl, rfl, hr⟩) ev
  | goto l => exact hp
  | outgrown => exact hp
theorem BPost.toCPost (hH : HR w g h) {r : AEnd × H} {e : Ending} {w' : World} (hp : BPost w g.strip r e w') : CPost w g r e w' := by
  cases e with
  | returned u =>
    obtain ⟨v, g', h1, ev, hH', hr⟩ := hp
    exact ⟨v, g.merge g', h1, merge_ev hH ev, merge_hr hH ev hH', merge_tmp hH ev, merge_rep hH ev hr⟩
  | panicked chain =>
    obtain ⟨v, u, g', h1, h2, ev, hH', hr⟩ := hp
    exact ⟨v, u, g.merge g', h1, h2, merge_ev hH ev, merge_hr hH ev hH', merge_tmp hH ev, merge_rep hH ev hr⟩
  | outgrown => exact hp.elim
end
end Go.Ve

namespace Go.Ve
open Go
section
variable {P : Program} {w : World} {g : Gh} {h : H}
theorem pureL_mem {l : List AV} (h : pureL l = true) : ∀ c ∈ l, c.pure = true := by
  induction l with
  | nil => simp
  | cons x l ih =>
    simp only [pureL, Bool.and_eq_true] at h
    intro c hc
    rcases List.mem_cons.1 hc with rfl | hc
    · exact h.1
    · exact ih h.2 c hc
theorem pureR_mem {l : List (List AV)} (h : pureR l = true) : ∀ r ∈ l, pureL r = true := by
  induction l with
  | nil => simp
  | cons x l ih =>
    simp only [pureR, Bool.and_eq_true] at h
    intro c hc
    rcases List.mem_cons.1 hc with rfl | hc
    · exact h.1
    · exact ih h.2 c hc
theorem Rep.pureMono {g2 : Gh} (hst : ∀ b k, g.st b k → g2.st b k) {wh : Wh} {x : AV} {v : Value} (hr : Rep w g wh x v) : ∀ {wh2 : Wh}, x.pure = true → Moves w g w g2 wh wh2 → Rep w g2 wh2 x v := by
  induction hr with
  | undef => intros; exact .undef
  | bool => intros; exact .bool
  | int => intros; exact .int
  | str => intros; exact .str
  | nilPtr => intros; exact .nilPtr
  | ptr ho => intro wh2 hp; simp [AV.pure] at hp
  | rptr f h1 _ ih =>
    intro wh2 hp _
    simp only [AV.pure] at hp
    exact .rptr f (fun j c hj => ⟨(h1 j c hj).1, hst _ _ (h1 j c hj).2.1, (h1 j c hj).2.2⟩) (fun j c hj => ih j c hj (pureL_mem hp c (List.mem_of_getElem? hj)) Moves.none)
  | list b off s f hn hc ha hs h1 _ hroom ih =>
    intro wh2 hp mv
    simp only [AV.pure] at hp
    exact .list b off s f hn hc ha hs (fun i r j cl hi hj => ⟨(h1 i r j cl hi hj).1, hst _ _ (h1 i r j cl hi hj).2.1, (h1 i r j cl hi hj).2.2⟩)
      (fun i r j cl hi hj => ih i r j cl hi hj (pureL_mem (pureR_mem hp r (List.mem_of_getElem? hi)) cl (List.mem_of_getElem? hj)) Moves.none) (hroom.mono (mv 0 0))
  | slc hl h => intro wh2 hp; simp [AV.pure] at hp
  | nilMap => intros; exact .nilMap
  | map ho => intro wh2 hp; simp [AV.pure] at hp
  | nilFunc => intros; exact .nilFunc
  | func h1 h2 _ _ i1 i2 =>
    intro wh2 hp _
    simp only [AV.pure, Bool.and_eq_true] at hp
    exact .func h1 h2 (fun i x y hx hy => i1 i x y hx hy (pureL_mem hp.1 x (List.mem_of_getElem? hx)) Moves.none) (fun i x y hx hy => i2 i x y hx hy (pureL_mem hp.2 x (List.mem_of_getElem? hx)) Moves.none)
  | nilIface => intros; exact .nilIface
  | iface _ ih => intro wh2 hp _; simp only [AV.pure] at hp; exact .iface (ih hp Moves.none)
  | agg h1 _ ih => intro wh2 hp mv; simp only [AV.pure] at hp; exact .agg h1 fun j c v hj hv => ih j c v hj hv (pureL_mem hp c (List.mem_of_getElem? hj)) (fun _ _ => mv 0 j)
  | tuple h1 _ ih => intro wh2 hp mv; simp only [AV.pure] at hp; exact .tuple h1 fun i x v hx hv => ih i x v hx hv (pureL_mem hp x (List.mem_of_getElem? hx)) (fun _ j => mv i j)
theorem freezeCell_rep {g2 : Gh} (hH : HR w g h) (hst : ∀ b k, g.st b k → g2.st b k) (hob : ∀ b id, g.own b = some (.obj id) → ∀ k, g2.st b k) {wh wh2 : Wh} {x y : AV} {v : Value} (hr : Rep w g wh x v) (he : x.freezeCell h = some y) (hp : y.pure = true)
    (mv : Moves w g w g2 wh wh2) : Rep w g2 wh2 y v := by
  unfold AV.freezeCell at he
  split at he
  · rename_i id off len s
    split at he
    · rename_i cells ro hid
      split at he
      · rename_i hle
        cases he
        simp only [AV.pure] at hp
        obtain ⟨c1, c2⟩ := chunks_get s len (cells.drop off)
        cases hr with
        | @slc _ _ _ _ _ al c hlc hac =>
          have rowl : ∀ r ∈ chunks s len (cells.drop off), r.length = s := by
            intro r hr
            obtain ⟨i, hi⟩ := List.getElem?_of_mem hr
            have hil : i < len := by have := (List.getElem?_eq_some_iff.1 hi).1; omega
            rw [c2 i hil] at hi
            cases hi
            have : (i + 1) * s ≤ len * s := Nat.mul_le_mul_right _ (by omega)
            rw [Nat.add_mul] at this
            simp; omega
          by_cases hl0 : len = 0
          · subst hl0
            exact .list 0 0 s (fun _ _ => undef) (by simp [c1]) hlc (fun h => absurd (List.eq_nil_of_length_eq_zero c1) h) rowl (fun i r j cl hi => by simp [chunks] at hi) (fun i r j cl hi => by simp [chunks] at hi) trivial
          · rcases hac with rfl | ⟨b, rfl, ho⟩
            · omega
            · cases hH.obj id _ hid ⟨_, ho⟩ with
              | @arr _ _ b' cs ty fz ho' hb hsz hcs hro =>
                obtain rfl := hH.inj _ _ _ ho ho'
                have cell : ∀ (i : Nat) r (j : Nat) cl, (chunks s len (cells.drop off))[i]? = some r → r[j]? = some cl → cells[off + i * s + j]? = some cl ∧ ∃ u, cs[off + i * s + j]? = some u := by
                  intro i r j cl hi hj
                  have hil : i < len := by have := (List.getElem?_eq_some_iff.1 hi).1; omega
                  rw [c2 i hil] at hi
                  cases hi
                  rw [List.getElem?_take] at hj
                  split at hj
                  · rw [List.getElem?_drop, List.getElem?_drop] at hj
                    rw [← Nat.add_assoc] at hj
                    refine ⟨hj, ?_⟩
                    have := (List.getElem?_eq_some_iff.1 hj).1
                    exact ⟨cs[off + i * s + j]'(by omega), by simp [show off + i * s + j < cs.size by omega]⟩
                  · cases hj
                refine .list b off s (fun i j => (cs[off + i * s + j]?).getD undef) (by simp [c1]) hlc (fun _ => rfl) rowl (fun i r j cl hi hj => ?_) (fun i r j cl hi hj => ?_) trivial
                · obtain ⟨h1, u, h2⟩ := cell i r j cl hi hj
                  refine ⟨(hcs _ cl u h1 h2).1, hob b id ho _, ?_⟩
                  simp [World.cell?, hb, h2]
                · obtain ⟨h1, u, h2⟩ := cell i r j cl hi hj
                  simp only [h2, Option.getD_some]
                  exact (hcs _ cl u h1 h2).2.weak.pureMono hst (pureL_mem (pureR_mem hp r (List.mem_of_getElem? hi)) cl (List.mem_of_getElem? hj)) Moves.none
      · cases he
    · cases he
  · cases he
    exact hr.pureMono hst hp mv
theorem mapM_get {α β : Type} {f : α → Option β} : ∀ {l : List α} {m : List β}, l.mapM f = some m → m.length = l.length ∧ ∀ (j : Nat) y, m[j]? = some y → ∃ x, l[j]? = some x ∧ f x = some y
  | [], m, h => by simp at h; subst h; simp
  | x :: l, m, h => by
    simp only [List.mapM_cons, Option.bind_eq_bind, Option.pure_def, Option.bind_eq_some_iff, Option.some.injEq] at h
    obtain ⟨y, h1, m', h2, rfl⟩ := h
    obtain ⟨h3, h4⟩ := mapM_get h2
    refine ⟨by simp [h3], fun j z hj => ?_⟩
    cases j with
    | zero => simp at hj; subst hj; exact ⟨x, by simp, h1⟩
    | succ j =>
      obtain ⟨x', h5, h6⟩ := h4 j z (by simpa using hj)
      exact ⟨x', by simpa using h5, h6⟩
theorem freezeAgg_rep {g2 : Gh} (hH : HR w g h) (hst : ∀ b k, g.st b k → g2.st b k) (hob : ∀ b id, g.own b = some (.obj id) → ∀ k, g2.st b k) {wh wh2 : Wh} {x y : AV} {v : Value} (hr : Rep w g wh x v) (he : x.freezeAgg h = some y) (hp : y.pure = true)
    (mv : Moves w g w g2 wh wh2) : Rep w g2 wh2 y v := by
  cases x with
  | agg cs =>
    simp only [AV.freezeAgg, Option.map_eq_some_iff] at he
    obtain ⟨ys, hm, rfl⟩ := he
    obtain ⟨h3, h4⟩ := mapM_get hm
    simp only [AV.pure] at hp
    cases hr with
    | agg h1 h2 =>
      refine .agg (by omega) fun j c u hj hu => ?_
      obtain ⟨x, hx, hf⟩ := h4 j c hj
      exact freezeCell_rep hH hst hob (h2 j x u hx hu) hf (pureL_mem hp c (List.mem_of_getElem? hj)) (fun _ _ => mv 0 j)
  | _ => exact freezeCell_rep hH hst hob hr he hp mv
theorem freeze_rep {g2 : Gh} (hH : HR w g h) (hst : ∀ b k, g.st b k → g2.st b k) (hob : ∀ b id, g.own b = some (.obj id) → ∀ k, g2.st b k) {wh wh2 : Wh} {x y : AV} {v : Value} (hr : Rep w g wh x v) (he : x.freeze h = some y) (hp : y.pure = true)
    (mv : Moves w g w g2 wh wh2) : Rep w g2 wh2 y v := by
  cases x with
  | tuple cs =>
    simp only [AV.freeze, Option.map_eq_some_iff] at he
    obtain ⟨ys, hm, rfl⟩ := he
    obtain ⟨h3, h4⟩ := mapM_get hm
    simp only [AV.pure] at hp
    cases hr with
    | tuple h1 h2 =>
      refine .tuple (by omega) fun j c u hj hu => ?_
      obtain ⟨x, hx, hf⟩ := h4 j c hj
      exact freezeAgg_rep hH hst hob (h2 j x u hx hu) hf (pureL_mem hp c (List.mem_of_getElem? hj)) (fun _ i => mv j i)
  | _ => exact freezeAgg_rep hH hst hob hr he hp mv
end
end Go.Ve

namespace Go.Ve
open Go
theorem mapM_id' {f : AV → Option AV} : ∀ {l : List AV}, (∀ x ∈ l, f x = some x) → l.mapM f = some l
  | [], _ => rfl
  | x :: l, hf => by
    have h1 := mapM_id' (l := l) (fun y hy => hf y (List.mem_cons_of_mem _ hy))
    simp [hf x (by simp), h1]
theorem freezeCell_pure {h : H} {x : AV} (hp : x.pure = true) : x.freezeCell h = some x := by
  cases x <;> first | rfl | simp [AV.pure] at hp
theorem freezeAgg_pure {h : H} {x : AV} (hp : x.pure = true) : x.freezeAgg h = some x := by
  cases x with
  | agg cs =>
    simp only [AV.pure] at hp
    simp only [AV.freezeAgg, mapM_id' (fun x hx => freezeCell_pure (h := h) (pureL_mem hp x hx)), Option.map_some]
  | _ => exact freezeCell_pure (h := h) hp
theorem freeze_pure {h : H} {x : AV} (hp : x.pure = true) : x.freeze h = some x := by
  cases x with
  | tuple cs =>
    simp only [AV.pure] at hp
    simp only [AV.freeze, mapM_id' (fun x hx => freezeAgg_pure (h := h) (pureL_mem hp x hx)), Option.map_some]
  | _ => exact freezeAgg_pure (h := h) hp
section
variable {P : Program} {w : World} {g : Gh} {h : H}
theorem flatCell_rep {w' : World} {g2 : Gh} {wh wh2 : Wh} {x y : AV} {v : Value} (hr : Rep w g wh x v) (he : x.freezeCell h = some y) (hp : y.flatCell = true) (mv : Moves w g w' g2 wh wh2) : Rep w' g2 wh2 y v := by
  cases hr with
  | slc hlc hac =>
    rename_i id off l s a c
    simp only [AV.freezeCell] at he
    split at he
    · split at he
      · rename_i cells ro hid hle
        cases he
        simp only [AV.flatCell, List.isEmpty_iff] at hp
        have hl : l = 0 := by rw [← (chunks_get s l (cells.drop off)).1, hp]; rfl
        subst hl
        exact .list 0 0 s (fun _ _ => undef) rfl hlc (fun h => absurd rfl h) (by simp [chunks]) (fun i r j cl hi => by simp [chunks] at hi) (fun i r j cl hi => by simp [chunks] at hi) trivial
      · cases he
    · cases he
  | list b off s f hn hc ha hs h1 h2 hroom =>
    cases he
    simp only [AV.flatCell, List.isEmpty_iff] at hp
    subst hp
    exact .list b off s f hn hc (fun h => absurd rfl h) (by simp) (fun i r j cl hi => by simp at hi) (fun i r j cl hi => by simp at hi) (hroom.mono (mv 0 0))
  | bool => cases he; exact .bool
  | int => cases he; exact .int
  | str => cases he; exact .str
  | nilPtr => cases he; exact .nilPtr
  | nilMap => cases he; exact .nilMap
  | nilFunc => cases he; exact .nilFunc
  | nilIface => cases he; exact .nilIface
  | _ => cases he; simp [AV.flatCell] at hp
theorem flat_rep {w' : World} {g2 : Gh} {wh wh2 : Wh} {x y : AV} {v : Value} (hr : Rep w g wh x v) (he : x.freeze h = some y) (hp : y.flat = true) (mv : Moves w g w' g2 wh wh2) : Rep w' g2 wh2 y v := by
  have aggc : ∀ {x y : AV} {v : Value} {wh wh2 : Wh}, Rep w g wh x v → x.freezeAgg h = some y → y.flatCell = true → Moves w g w' g2 wh wh2 → Rep w' g2 wh2 y v := by
    intro x y v wh wh2 hr he hp mv
    cases x with
    | agg cs =>
      simp only [AV.freezeAgg, Option.map_eq_some_iff] at he
      obtain ⟨ys, _, rfl⟩ := he
      simp [AV.flatCell] at hp
    | _ => exact flatCell_rep (h := h) hr he hp mv
  cases x with
  | tuple cs =>
    simp only [AV.freeze, Option.map_eq_some_iff] at he
    obtain ⟨ys, hm, rfl⟩ := he
    obtain ⟨h3, h4⟩ := mapM_get hm
    simp only [AV.flat, List.all_eq_true] at hp
    cases hr with
    | tuple h1 h2 =>
      refine .tuple (by omega) fun j c u hj hu => ?_
      obtain ⟨x, hx, hf⟩ := h4 j c hj
      exact aggc (h2 j x u hx hu) hf (hp c (List.mem_of_getElem? hj)) (fun _ i => mv j i)
  | agg cs =>
    simp only [AV.freeze, AV.freezeAgg, Option.map_eq_some_iff] at he
    obtain ⟨ys, hm, rfl⟩ := he
    obtain ⟨h3, h4⟩ := mapM_get hm
    simp only [AV.flat, List.all_eq_true] at hp
    cases hr with
    | agg h1 h2 =>
      refine .agg (by omega) fun j c u hj hu => ?_
      obtain ⟨x, hx, hf⟩ := h4 j c hj
      exact flatCell_rep (h2 j x u hx hu) hf (hp c (List.mem_of_getElem? hj)) (fun _ _ => mv 0 j)
  | slc id off l s =>
    have he' : (AV.slc id off l s).freezeCell h = some y := he
    have hl : y.flatCell = true := by
      have he2 := he'
      simp only [AV.freezeCell] at he2
      split at he2
      · split at he2
        · cases he2; exact hp
        · cases he2
      · cases he2
    exact flatCell_rep hr he' hl mv
  | _ => cases he; exact flatCell_rep (h := h) hr rfl hp mv
def Gh.closed (g : Gh) (all : Bool) (n : Nat) : Gh := ⟨fun _ => none, fun b k => g.st b k ∨ all = true ∧ b < n, fun _ => False⟩
def isRes : Option Loc → Bool
  | some (.res _ _) => true
  | _ => false
def Gh.unshut (g g' : Gh) (n n' : Nat) : Gh := ⟨fun b => if b < n then g.own b else if isRes (g'.own b) then g'.own b else none, fun b k => if b < n then g.st b k else if isRes (g'.own b) then g'.st b k else b < n', g.rsv⟩
theorem HR.closed (hH : HR w g h) (all : Bool) : HR w (g.closed all w.heap.size) [] :=
  ⟨fun id o hid => (by simp at hid), fun _ _ _ h1 => (by cases h1), fun _ _ h1 => (by cases h1), fun _ _ h1 => (by cases h1), fun b k hk => Or.elim hk (hH.stlt b k) fun h => h.2, fun _ _ h => (by cases h), fun _ h => False.elim h⟩
section
variable {w' : World} {g' : Gh} {h' : H} {all : Bool}
theorem seal_none (ev : Ev w (g.closed all w.heap.size) w' g') {b : Nat} (hb : b < w.heap.size) : g'.own b = none ∧ w'.heap[b]? = w.heap[b]? ∧ ∀ k, g'.st b k → g.st b k ∨ all = true := by
  obtain ⟨h1, h2, h3⟩ := ev.old b hb rfl
  exact ⟨h1, h2, fun k hk => (h3 k hk).imp id fun h => h.1⟩
theorem unshut_ev (hH : HR w g h) (ev : Ev w (g.closed all w.heap.size) w' g') : Ev w g w' (g.unshut g' w.heap.size w'.heap.size) where
  size := ev.size
  st b k hs := by
    have hb := hH.stlt b k hs
    refine ⟨by simp [Gh.unshut, hb, hs], ?_⟩
    simp [World.cell?, (seal_none ev hb).2.1]
  obj b id ho := by
    have hb := hH.lt b _ ho
    simp [Gh.unshut, hb, ho]
  old b hb ho := ⟨by simp [Gh.unshut, hb, ho], (seal_none ev hb).2.1, fun k hk => by simpa [Gh.unshut, hb] using hk⟩
  os := ev.os
  out := ev.out
  rsv _ h := h
theorem unshut_keeps (hH : HR w g h) (ev : Ev w (g.closed all w.heap.size) w' g') (l : Loc) : Keeps w g w' (g.unshut g' w.heap.size w'.heap.size) l l := fun b ho => by
  have hb := hH.lt b _ ho
  exact ⟨by simp [Gh.unshut, hb, ho], (seal_none ev hb).2.1, fun k hk => by simpa [Gh.unshut, hb] using hk⟩
theorem unshut_old {b : Nat} {l : Loc} (hl : ∀ p c, l ≠ .res p c) {n n' : Nat} (h : (g.unshut g' n n').own b = some l) : b < n ∧ g.own b = some l := by
  simp only [Gh.unshut] at h
  split at h
  · exact ⟨by assumption, h⟩
  · split at h
    · rename_i hr
      rw [h] at hr
      cases l <;> simp [isRes] at hr
      exact absurd rfl (hl _ _)
    · cases h
theorem unshut_hr (hH : HR w g h) (hH' : HR w' g' h') (ev : Ev w (g.closed all w.heap.size) w' g') : HR w' (g.unshut g' w.heap.size w'.heap.size) h where
  obj id o hid ht := (hH.obj id o hid (by obtain ⟨b, hb⟩ := ht; exact ⟨b, (unshut_old (by simp) hb).2⟩)).mono (unshut_ev hH ev).mono (fun b hb => (unshut_keeps hH ev _ b hb).2) (fun j => unshut_keeps hH ev _)
  inj b b' id h1 h2 := hH.inj b b' id (unshut_old (by simp) h1).2 (unshut_old (by simp) h2).2
  lt b l h1 := by
    simp only [Gh.unshut] at h1
    split at h1
    · rename_i hb; exact Nat.lt_of_lt_of_le hb ev.size
    · split at h1
      · exact hH'.lt b l h1
      · cases h1
  bd b id h1 := hH.bd b id (unshut_old (by simp) h1).2
  stlt b k hs := by
    simp only [Gh.unshut] at hs
    split at hs
    · rename_i hb; exact Nat.lt_of_lt_of_le hb ev.size
    · split at hs
      · exact hH'.stlt b k hs
      · exact hs
  rsv b id h1 := hH.rsv b id (unshut_old (by simp) h1).2
  rlt := hH.rlt
theorem unshut_moves (ev : Ev w (g.closed all w.heap.size) w' g') (wh : Wh) (hw : ∀ p c l, wh p c = some l → ∃ p c, l = .res p c) : Moves w' g' w' (g.unshut g' w.heap.size w'.heap.size) wh wh := by
  intro p c l hl
  refine ⟨l, hl, fun b hb => ?_⟩
  obtain ⟨p', c', rfl⟩ := hw p c l hl
  have hnb : ¬ b < w.heap.size := fun h => by rw [(seal_none ev h).1] at hb; cases hb
  exact ⟨by simp [Gh.unshut, hnb, hb, isRes], rfl, fun k hk => by simpa [Gh.unshut, hnb, hb, isRes] using hk⟩
theorem unshut_rep (hH : HR w g h) (hH' : HR w' g' h') (ev : Ev w (g.closed all w.heap.size) w' g') {wh : Wh} (hw : ∀ p c l, wh p c = some l → ∃ p c, l = .res p c) {x y : AV} {v : Value} (hr : Rep w' g' wh x v) (he : x.freeze h' = some y) (hp : y.pure = true) (hy : all = false ∨ y.flat = true) :
    Rep w' (g.unshut g' w.heap.size w'.heap.size) wh y v := by
  rcases hy with rfl | hy
  · refine freeze_rep hH' (fun b k hs => ?_) (fun b id ho k => ?_) hr he hp (unshut_moves ev wh hw)
    · simp only [Gh.unshut]
      split
      · rename_i hb
        rcases (seal_none ev hb).2.2 k hs with h | h
        · exact h
        · cases h
      · split
        · exact hs
        · exact hH'.stlt b k hs
    · have hnb : ¬ b < w.heap.size := fun h => by rw [(seal_none ev h).1] at ho; cases ho
      simp only [Gh.unshut, if_neg hnb, ho, isRes]
      exact hH'.lt b _ ho
  · exact flat_rep hr he hy (unshut_moves ev wh hw)
end
theorem seal_args (hH : HR w g h) {args as₁ : List AV} {vals : Array Value} (ha : ArgsRep w g args vals) (hm : args.mapM (AV.freeze h) = some as₁) (hp : pureL as₁ = true) : ArgsRep w (g.closed (!pureL args) w.heap.size) as₁ vals := by
  obtain ⟨h3, h4⟩ := mapM_get hm
  refine ⟨by rw [ha.1, h3], fun j y v hy hv => ?_⟩
  obtain ⟨x, hx, hf⟩ := h4 j y hy
  have hr := ha.2 j x v hx hv
  have hyp := pureL_mem hp y (List.mem_of_getElem? hy)
  cases hpa : pureL args with
  | true =>
    have hxp := pureL_mem hpa x (List.mem_of_getElem? hx)
    rw [freeze_pure hxp] at hf
    cases hf
    exact hr.pureMono (fun b k hs => Or.inl hs) hxp Moves.none
  | false => exact freeze_rep hH (fun b k hs => Or.inl hs) (fun b id ho k => Or.inr ⟨rfl, hH.lt b _ ho⟩) hr hf hyp Moves.none
theorem pure_post (hH : HR w g h) {args as₁ : List AV} {run : List AV → H → Option (AEnd × H)} (hm : args.mapM (AV.freeze h) = some as₁) (hp : pureL as₁ = true) {r r0 : AEnd × H} (hr0 : run as₁ [] = some r0) (he : pureCall run args h = some r) {e : Ending} {w' : World}
    (hb : BPost w (g.closed (!pureL args) w.heap.size) r0 e w') : CPost w g r e w' := by
  unfold pureCall at he
  simp only [hm, hp, if_true, hr0] at he
  obtain ⟨e0, h0⟩ := r0
  cases e0 with
  | ret v0 =>
    simp only [Option.bind_eq_some_iff] at he
    obtain ⟨y, hy, he⟩ := he
    split at he
    · rename_i hc
      cases he
      simp only [Bool.and_eq_true, Bool.or_eq_true] at hc
      cases e with
      | returned u =>
        obtain ⟨v, g', h1, ev, hH', hr⟩ := hb
        cases h1
        refine ⟨y, g.unshut g' w.heap.size w'.heap.size, rfl, unshut_ev hH ev, unshut_hr hH hH' ev, fun t p c => unshut_keeps hH ev _, unshut_rep hH hH' ev (fun p c l hl => by cases hl; exact ⟨p, c, rfl⟩) hr hy hc.1 (hc.2.imp (fun h => by simp [h]) id)⟩
      | panicked chain => obtain ⟨v, u, g', h1, _⟩ := hb; cases h1
      | outgrown => exact hb.elim
    · cases he
  | pan v0 =>
    simp only [Option.bind_eq_some_iff] at he
    obtain ⟨y, hy, he⟩ := he
    split at he
    · rename_i hc
      cases he
      simp only [Bool.and_eq_true, Bool.or_eq_true] at hc
      cases e with
      | returned u => obtain ⟨v, g', h1, _⟩ := hb; cases h1
      | panicked chain =>
        obtain ⟨v, u, g', h1, h2, ev, hH', hr⟩ := hb
        cases h1
        refine ⟨y, u, g.unshut g' w.heap.size w'.heap.size, rfl, h2, unshut_ev hH ev, unshut_hr hH hH' ev, fun t p c => unshut_keeps hH ev _, unshut_rep hH hH' ev (fun p c l hl => by cases hl) hr hy hc.1 (hc.2.imp (fun h => by simp [h]) id)⟩
      | outgrown => exact hb.elim
    · cases he
theorem freezeAgg_tup {x y : AV} (he : x.freezeAgg h = some y) (hy : y.notTup = true) : x.notTup = true := by
  cases x with
  | tuple vs => cases he; exact hy
  | _ => rfl
theorem freeze_ret {fn : Func} {v y : AV} (he : v.freeze h = some y) (hy : retOk fn (.ret y) = true) : retOk fn (.ret v) = true := by
  cases v with
  | tuple vs =>
    simp only [AV.freeze, Option.map_eq_some_iff] at he
    obtain ⟨ys, hm, rfl⟩ := he
    obtain ⟨h3, h4⟩ := mapM_get hm
    simp only [retOk, Bool.and_eq_true, List.all_eq_true] at hy ⊢
    refine ⟨hy.1, fun x hx => ?_⟩
    obtain ⟨j, hj⟩ := List.getElem?_of_mem hx
    have hjl : j < ys.length := by have := (List.getElem?_eq_some_iff.1 hj).1; omega
    obtain ⟨x', h5, h6⟩ := h4 j ys[j] (by simp [hjl])
    rw [hj] at h5
    cases h5
    exact freezeAgg_tup h6 (hy.2 _ (by simp))
  | _ => rfl
structure PolOk (P : Program) (pol : Pol) : Prop where
  mixed : P.follows .mixedOrders = true
  ext : ∀ f e, pol.ext f = some e → ∀ (args : List AV) (h : H) (r : AEnd × H), e args h = some r → ∀ (vals : Array Value) (w : World) (g : Gh), HR w g h → ArgsRep w g args vals → Callee P f vals w (CPost w g r)
theorem freezeCell_more {h l : H} {x y : AV} (he : x.freezeCell h = some y) : x.freezeCell (h ++ l) = some y := by
  unfold AV.freezeCell at he ⊢
  split at he
  · split at he
    · rename_i hid
      simp only [obj_more hid]
      exact he
    · cases he
  · exact he
theorem mapM_more {f g : AV → Option AV} (hfg : ∀ x y, f x = some y → g x = some y) : ∀ {l m : List AV}, l.mapM f = some m → l.mapM g = some m
  | [], m, h => by simpa using h
  | x :: l, m, h => by
    simp only [List.mapM_cons, Option.pure_def, Option.bind_eq_bind, Option.bind_eq_some_iff] at h ⊢
    obtain ⟨y, h1, ys, h2, h3⟩ := h
    exact ⟨y, hfg _ _ h1, ys, mapM_more hfg h2, h3⟩
theorem freezeAgg_not {h : H} {x : AV} (hx : ¬ ∃ cs, x = .agg cs) : x.freezeAgg h = x.freezeCell h := by
  cases x <;> first | rfl | exact absurd ⟨_, rfl⟩ hx
theorem freezeAgg_more {h l : H} {x y : AV} (he : x.freezeAgg h = some y) : x.freezeAgg (h ++ l) = some y := by
  by_cases hx : ∃ cs, x = .agg cs
  · obtain ⟨cs, rfl⟩ := hx
    simp only [AV.freezeAgg, Option.map_eq_some_iff] at he ⊢
    obtain ⟨m, h1, h2⟩ := he
    exact ⟨m, mapM_more (fun _ _ => freezeCell_more) h1, h2⟩
  · rw [freezeAgg_not hx] at he ⊢
    exact freezeCell_more he
theorem freeze_not {h : H} {x : AV} (hx : ¬ ∃ cs, x = .tuple cs) : x.freeze h = x.freezeAgg h := by
  cases x <;> first | rfl | exact absurd ⟨_, rfl⟩ hx
theorem freeze_more {h l : H} {x y : AV} (he : x.freeze h = some y) : x.freeze (h ++ l) = some y := by
  by_cases hx : ∃ cs, x = .tuple cs
  · obtain ⟨cs, rfl⟩ := hx
    simp only [AV.freeze, Option.map_eq_some_iff] at he ⊢
    obtain ⟨m, h1, h2⟩ := he
    exact ⟨m, mapM_more (fun _ _ => freezeAgg_more) h1, h2⟩
  · rw [freeze_not hx] at he ⊢
    exact freezeAgg_more he
theorem pureCall_still {run : List AV → H → Option (AEnd × H)} {args : List AV} {h h' : H} {e : AEnd} (he : pureCall run args h = some (e, h')) : h' = h ∧ ∀ l, pureCall run args (h ++ l) = some (e, h ++ l) := by
  unfold pureCall at *
  split at he
  · cases he
  · rename_i as₁ hm
    have hm' : ∀ l, args.mapM (AV.freeze (h ++ l)) = some as₁ := fun l => mapM_more (fun _ _ => freeze_more) hm
    split at he
    · rename_i hp
      simp only [hm', if_pos hp]
      split at he
      · simp only [Option.bind_eq_some_iff] at he ⊢
        obtain ⟨w, h1, h2⟩ := he
        split at h2
        · rename_i hc
          cases h2
          exact ⟨rfl, fun l => ⟨w, h1, by rw [if_pos hc]⟩⟩
        · cases h2
      · simp only [Option.bind_eq_some_iff] at he ⊢
        obtain ⟨w, h1, h2⟩ := he
        split at h2
        · rename_i hc
          cases h2
          exact ⟨rfl, fun l => ⟨w, h1, by rw [if_pos hc]⟩⟩
        · cases h2
      · cases he
    · cases he
theorem acall_still {pol : Pol} {f : FuncId} (hf : pol.still f = true) : ∀ n, Still (acall P pol n) f
  | 0, args, h, e, h', he => by simp [acall] at he
  | n + 1, args, h, e, h', he => by
    simp only [Pol.still, Bool.and_eq_true, Option.isNone_iff_eq_none] at hf
    have hm : pol.mode f = 0 := Nat.eq_of_beq_eq_true hf.2
    unfold acall at he ⊢
    rw [hf.1] at he ⊢
    simp only at he ⊢
    split at he
    · cases he
    · rename_i fn hfn
      split at he
      · cases he
      · rename_i c hb
        split at he
        · rename_i hok
          simp only [if_pos hok]
          simp only [hm, if_true] at he ⊢
          unfold retChk at he ⊢
          split at he
          · rename_i r' hr'
            split at he
            · rename_i hro
              cases he
              obtain ⟨e1, e2⟩ := pureCall_still hr'
              refine ⟨e1, fun l => ?_⟩
              rw [e2 l]
              simp only
              rw [if_pos hro]
            · cases he
          · cases he
        · cases he
theorem acall_sound {pol : Pol} (hpol : PolOk P pol) : ∀ n, CallOk P (acall P pol n)
  | 0, f, args, h, r, he, _, _, _, _, _ => by simp [acall] at he
  | n + 1, f, args, h, r, he, vals, w, g, hH, ha => by
    unfold acall at he
    cases hx : pol.ext f with
    | some e => rw [hx] at he; exact hpol.ext f e hx args h r he vals w g hH ha
    | none =>
      rw [hx] at he
      simp only at he
      split at he
      · cases he
      · rename_i fn hf
        split at he
        · cases he
        · rename_i c hb
          split at he
          · rename_i hok
            simp only [Bool.and_eq_true, List.all_eq_true] at hok
            obtain ⟨hok, hqs⟩ := hok
            have hle := Nat.le_of_ble_eq_true hok.2
            refine .inl ⟨callFunc_enter hf hb hok.1 vals, ?_⟩
            unfold retChk at he
            split at he
            · rename_i r' hr'
              split at he
              · rename_i hro
                cases he
                split at hr'
                ·
                  have hpc := hr'
                  unfold pureCall at hr'
                  split at hr'
                  · cases hr'
                  · rename_i as₁ hm
                    split at hr'
                    · rename_i hp
                      have hlen : as₁.length = args.length := (mapM_get hm).1
                      cases hrun : body P (pol.ann f).1 (acall P pol n) fn (pol.ann f).2 n c as₁ [] with
                      | none => rw [hrun] at hr'; cases hr'
                      | some r0 =>
                        have hro0 : retOk fn r0.1 = true := by
                          rw [hrun] at hr'
                          obtain ⟨e0, h0⟩ := r0
                          cases e0 with
                          | ret v0 =>
                            simp only [Option.bind_eq_some_iff] at hr'
                            obtain ⟨y, hy, hr'⟩ := hr'
                            split at hr'
                            · cases hr'; exact freeze_ret hy hro
                            · cases hr'
                          | pan v0 => rfl
                        have := body_sound (acall_sound hpol n) hf hb hpol.mixed (fun g hg => acall_still (hqs g hg) n) hok.1 (by omega) hro0 hrun (hH.closed (!pureL args)) (seal_args hH ha hm hp)
                        exact this.mono fun e w' hp' => pure_post hH hm hp hrun hpc hp'
                    · cases hr'
                · have := body_sound (acall_sound hpol n) hf hb hpol.mixed (fun g hg => acall_still (hqs g hg) n) hok.1 hle hro hr' hH.strip ha.strip
                  exact this.mono fun e w' hp' => hp'.toCPost hH
              · cases he
            · cases he
          · cases he
end
end Go.Ve

namespace Go.Ve
open Go
def Late (p : Nat → Prop) : Prop := ∃ N, ∀ m, N ≤ m → p m
theorem Late.and {p q : Nat → Prop} (h1 : Late p) (h2 : Late q) : Late fun m => p m ∧ q m := by
  obtain ⟨N, h1⟩ := h1
  obtain ⟨M, h2⟩ := h2
  exact ⟨max N M, fun m hm => ⟨h1 m (by omega), h2 m (by omega)⟩⟩
theorem Late.imp {p q : Nat → Prop} (h1 : Late p) (h : ∀ m, p m → q m) : Late q := by
  obtain ⟨N, h1⟩ := h1
  exact ⟨N, fun m hm => h m (h1 m hm)⟩
theorem Late.of {p : Nat → Prop} (h : ∀ m, p m) : Late p := ⟨0, fun m _ => h m⟩
structure KC {R : Type} (k : K R) (C : Nat → K R) (res : R) : Prop where
  normal : ∀ s, k.normal s = some res → Late fun m => (C m).normal s = some res
  exit : ∀ i s, k.exit i s = some res → Late fun m => (C m).exit i s = some res
  ret : ∀ s, k.ret s = some res → Late fun m => (C m).ret s = some res
  pan : ∀ v s, k.pan v s = some res → Late fun m => (C m).pan v s = some res
def CC (call : Cl) (C : Nat → Cl) : Prop := ∀ f args h r, call f args h = some r → Late fun m => C m f args h = some r
section
variable {P : Program} {R : Type}
theorem bindA_late {α : Type} {x : Option α} {f : α → Option R} {g : Nat → α → Option R} {res : R} (h : bindA x f = some res) (hf : ∀ a, f a = some res → Late fun m => g m a = some res) : Late fun m => bindA x (g m) = some res := by
  cases x with
  | none => cases h
  | some a => exact hf a h
theorem withV_late {g : Bool} {v : AV} {k : AV → Option R} {ks : Nat → AV → Option R} {res : R} (h : withV g v k = some res) (hk : ∀ v, k v = some res → Late fun m => ks m v = some res) : Late fun m => withV g v (ks m) = some res := by
  unfold withV at h ⊢
  cases g with
  | false => exact hk _ h
  | true =>
    simp only [cond_true] at h ⊢
    unfold condA at h ⊢
    split at h
    · rename_i t
      cases t with
      | true => exact hk _ h
      | false => exact hk _ h
    · cases h
theorem gateK_late {all : List Oper} {fr : List (Nat × AV)} {o : Oper} {x y : Option R} {xs ys : Nat → Option R} {res : R} (h : gateK all fr o x y = some res) (hx : x = some res → Late fun m => xs m = some res) (hy : y = some res → Late fun m => ys m = some res) : Late fun m => gateK all fr o (xs m) (ys m) = some res := by
  unfold gateK at h ⊢
  split at h
  · exact hx h
  · split at h
    · unfold gate at h ⊢
      split at h
      · split at h
        · rename_i hb
          exact (hx h).imp fun m hm => by rw [if_pos hb]; exact hm
        · rename_i hb
          exact (hy h).imp fun m hm => by rw [if_neg hb]; exact hm
      · exact hy h
      · cases h
    · cases h
theorem callVal_late {call : Cl} {C : Nat → Cl} (hc : CC call C) {h : H} {f : AV} {args : List AV} {p : AEnd × H} (hz : callVal call h f args = some p) : Late fun m => callVal (C m) h f args = some p := by
  unfold callVal at hz ⊢
  split at hz
  · exact hc _ _ _ _ hz
  · cases hz
theorem regionC_late {call : Cl} {C : Nat → Cl} (hc : CC call C) {A : FAnn} {r : Nat} {all : List Oper} {k : K R} {Ks : Nat → K R} {res : R} (hk : KC k Ks res) : ∀ (l : List (Nat × Oper)) (fr : List (Nat × AV)) (ob : List (Nat × Nat)) (ds : List ADef) (h : H),
    regionC P A call r all k l fr ob ds h = some res → Late fun m => regionC P A (C m) r all (Ks m) l fr ob ds h = some res
  | [], fr, ob, ds, h, he => hk.normal _ he
  | (i, o) :: l, fr, ob, ds, h, he => by
    have ih := regionC_late hc (A := A) (r := r) (all := all) hk l
    unfold regionC at he ⊢
    split at he
    · simp only [strict_eq] at he ⊢
      exact gateK_late he (fun hx => bindA_late hx fun v hv => withV_late hv fun v hv => ih _ _ _ _ hv) (fun hy => ih _ _ _ _ hy)
    · simp only [strict_eq] at he ⊢
      exact gateK_late he (fun hx => bindA_late hx fun v hv => ih _ _ _ _ hv) (fun hy => ih _ _ _ _ hy)
    · simp only [strict_eq] at he ⊢
      exact gateK_late he (fun hx => bindA_late hx fun v hv => withV_late hv fun v hv => ih _ _ _ _ hv) (fun hy => ih _ _ _ _ hy)
    · simp only [strict_eq] at he ⊢
      exact gateK_late he (fun hx => bindA_late hx fun v hv => withV_late hv fun v hv => ih _ _ _ _ hv) (fun hy => ih _ _ _ _ hy)
    · refine gateK_late he (fun hx => ?_) (fun hy => ih _ _ _ _ hy)
      rw [bindA_eq] at hx
      simp only [Option.bind_eq_some_iff] at hx
      obtain ⟨⟨e, h'⟩, hp, hx⟩ := hx
      cases e with
      | ret v =>
        simp only [retOr] at hx
        have h2 : Late fun m => withV (isG all i) v (fun v => regionC P A (C m) r all (Ks m) l (putV A.nt o.dst v fr) (putM o.dst full ob) ds h') = some res := withV_late hx fun v hv => ih _ _ _ _ hv
        exact ((callVal_late hc hp).and h2).imp fun m hm => by rw [hm.1]; exact hm.2
      | pan v =>
        have h2 : Late fun m => (Ks m).pan v ⟨fr, ob, ds, h'⟩ = some res := hk.pan _ _ hx
        exact ((callVal_late hc hp).and h2).imp fun m hm => by rw [hm.1]; exact hm.2
    · rename_i x hkk
      cases hg : o.guard.isNone with
      | false => rw [hg] at he; cases he
      | true =>
        rw [hg] at he
        simp only [cond_true] at he ⊢
        unfold panOr at he ⊢
        split at he
        · exact hk.pan _ _ he
        · cases he
    · rename_i f args hkk
      cases hg : o.guard.isNone with
      | false => rw [hg] at he; cases he
      | true =>
        rw [hg] at he
        simp only [cond_true] at he ⊢
        exact bindA_late he fun d hd => ih _ _ _ _ hd
theorem whenB_late {p : Bool} {ps : Nat → Bool} {k : Option R} {ks : Nat → Option R} {res : R} (h : whenB p k = some res) (hp : p = true → Late fun m => ps m = true) (hk : k = some res → Late fun m => ks m = some res) : Late fun m => whenB (ps m) (ks m) = some res := by
  obtain ⟨h1, h2⟩ := whenB_some h
  exact ((hp h1).and (hk h2)).imp fun m hm => by rw [hm.1]; exact hm.2
theorem chkBack_late {b : Nat} {p : H → Bool} {ps : Nat → H → Bool} (hp : ∀ h, p h = true → Late fun m => ps m h = true) {res : R} : ∀ {l : List (Nat × H)} {k : Option R} {ks : Nat → Option R}, chkBack b p l k = some res → (k = some res → Late fun m => ks m = some res) → Late fun m => chkBack b (ps m) l (ks m) = some res
  | [], k, ks, h, hk => hk h
  | x :: l, k, ks, h, hk => by
    unfold chkBack at h ⊢
    cases hb : b.testBit x.1 with
    | true => rw [hb] at h; simp only [cond_true] at h ⊢; exact chkBack_late hp h hk
    | false => rw [hb] at h; simp only [cond_false] at h ⊢; exact whenB_late h (hp _) fun h => chkBack_late hp h hk
inductive PR : List (Nat × (H → Bool)) → (Nat → List (Nat × (H → Bool))) → Prop
  | nil : PR [] fun _ => []
  | cons {i : Nat} {p : H → Bool} {ps : Nat → H → Bool} {l : List (Nat × (H → Bool))} {ls : Nat → List (Nat × (H → Bool))} (hp : ∀ h, p h = true → Late fun m => ps m h = true) (hl : PR l ls) : PR ((i, p) :: l) fun m => (i, ps m) :: ls m
theorem chkFwd_late {b : Nat} {h' : H} {res : R} {l : List (Nat × (H → Bool))} {ls : Nat → List (Nat × (H → Bool))} (hl : PR l ls) {k : Option R} {ks : Nat → Option R} (hk : k = some res → Late fun m => ks m = some res) : chkFwd b h' l k = some res → Late fun m => chkFwd b h' (ls m) (ks m) = some res := by
  induction hl with
  | nil => exact hk
  | cons hp hl ih =>
    intro h
    rename_i i p ps l ls
    unfold chkFwd at h
    cases hb : b.testBit i with
    | true =>
      rw [hb] at h
      refine (ih h).imp fun m hm => ?_
      unfold chkFwd
      simp only [hb, cond_true]
      exact hm
    | false =>
      rw [hb] at h
      refine (whenB_late h (hp _) ih).imp fun m hm => ?_
      unfold chkFwd
      simp only [hb, cond_false]
      exact hm
theorem regionQC_late {call : Cl} {C : Nat → Cl} (hc : CC call C) {A : FAnn} {r : Nat} {all : List Oper} {bs : List Nat} {k : List (Nat × AV) → List (Nat × Nat) → H → Option R} {Ks : Nat → List (Nat × AV) → List (Nat × Nat) → H → Option R} {res : R} (hk : ∀ fr ob h, k fr ob h = some res → Late fun m => Ks m fr ob h = some res) : ∀ (l : List (Nat × Oper)) (pr : List (Nat × (H → Bool))) (prs : Nat → List (Nat × (H → Bool))) (pw : List (Nat × H)) (fr : List (Nat × AV)) (ob : List (Nat × Nat)) (h : H), PR pr prs →
    regionQC P A call r all bs k l pr pw fr ob h = some res → Late fun m => regionQC P A (C m) r all bs (Ks m) l (prs m) pw fr ob h = some res
  | [], pr, prs, pw, fr, ob, h, hp, he => hk _ _ _ he
  | (i, o) :: l, pr, prs, pw, fr, ob, h, hp, he => by
    have ih := regionQC_late hc (A := A) (r := r) (all := all) (bs := bs) hk l
    unfold regionQC at he ⊢
    cases hkk : kindOf A r i o.op with
    | tot =>
      rw [hkk] at he
      simp only [strict_eq] at he ⊢
      exact gateK_late he (fun hx => bindA_late hx fun v hv => withV_late hv fun v hv => ih _ _ _ _ _ _ hp hv) (fun hy => ih _ _ _ _ _ _ hp hy)
    | new =>
      rw [hkk] at he
      simp only [strict_eq] at he ⊢
      exact gateK_late he (fun hx => bindA_late hx fun v hv => ih _ _ _ _ _ _ hp hv) (fun hy => ih _ _ _ _ _ _ hp hy)
    | val =>
      rw [hkk] at he
      simp only [strict_eq] at he ⊢
      refine gateK_late he (fun hx => bindA_late hx fun v hv => ?_) (fun hy => ih _ _ _ _ _ _ hp hy)
      cases hb : Nat.beq (clsOf A r i o.op) 1 with
      | true =>
        rw [hb] at hv
        exact chkBack_late (ps := fun _ => rdVal P A r i o fr ob v) (fun _ h => .of fun _ => h) hv fun hv => withV_late hv fun v' hv => ih _ _ _ _ _ _ (.cons (ps := fun _ => rdVal P A r i o fr ob v') (fun _ h => .of fun _ => h) hp) hv
      | false =>
        rw [hb] at hv
        dsimp only [pickJ] at hv ⊢
        exact withV_late hv fun v hv => ih _ _ _ _ _ _ hp hv
    | heap =>
      rw [hkk] at he
      simp only [strict_eq] at he ⊢
      exact gateK_late he (fun hx => bindA_late hx fun p hv => chkFwd_late hp (fun hv => withV_late hv fun v hv => ih _ _ _ _ _ _ hp hv) hv) (fun hy => ih _ _ _ _ _ _ hp hy)
    | call f args =>
      rw [hkk] at he
      simp only [strict_eq] at he ⊢
      refine gateK_late he (fun hx => ?_) (fun hy => ih _ _ _ _ _ _ hp hy)
      rw [bindA_eq] at hx
      simp only [Option.bind_eq_some_iff] at hx
      obtain ⟨⟨e, h'⟩, hpp, hx⟩ := hx
      cases e with
      | pan v => cases hx
      | ret v =>
        simp only [retOr] at hx
        have rd : ∀ v h2, rdCall A call f args fr v h2 = true → Late fun m => rdCall A (C m) f args fr v h2 = true := fun v h2 hr => by
          unfold rdCall eqE at hr ⊢
          split at hr
          · rename_i x w h3 hx3
            exact (callVal_late hc hx3).imp fun m hm => by rw [hm]; exact hr
          · cases hr
        have h2 : Late fun m => pickJ (Nat.beq (clsOf A r i o.op) 1)
            (chkBack (befAt bs i) (rdCall A (C m) f args fr v) pw (withV (isG all i) v fun v' => regionQC P A (C m) r all bs (Ks m) l ((i, rdCall A (C m) f args fr v') :: prs m) pw (putV A.nt o.dst v' fr) (putM o.dst (maskQ P A r i ob o) (offQ A r i ob o.op)) h'))
            (chkFwd (befAt bs i) h' (prs m) (withV (isG all i) v fun v' => regionQC P A (C m) r all bs (Ks m) l (prs m) ((i, h) :: pw) (putV A.nt o.dst v' fr) (putM o.dst (maskQ P A r i ob o) (offQ A r i ob o.op)) h')) = some res := by
          cases hb : Nat.beq (clsOf A r i o.op) 1 with
          | true =>
            rw [hb] at hx
            exact chkBack_late (rd v) hx fun hv => withV_late hv fun v' hv => ih _ _ _ _ _ _ (.cons (rd v') hp) hv
          | false =>
            rw [hb] at hx
            exact chkFwd_late hp (fun hv => withV_late hv fun v' hv => ih _ _ _ _ _ _ hp hv) hx
        exact ((callVal_late hc hpp).and h2).imp fun m hm => by rw [hm.1]; exact hm.2
    | pan x => rw [hkk] at he; cases he
    | dfr f args => rw [hkk] at he; cases he
end
end Go.Ve

namespace Go.Ve
open Go
section
variable {P : Program} {R : Type}
theorem exec_late {call : Cl} {C : Nat → Cl} (hc : CC call C) {A : FAnn} {n : Nat} {res : R} : ∀ (c : Code) (an : Ann) (k : K R) (Ks : Nat → K R) (s : St), KC k Ks res → exec P A call n c an k s = some res → Late fun m => exec P A (C m) m c an (Ks m) s = some res := by
  intro c
  induction c with
  | skip => intro an k Ks s hk he; exact hk.normal _ he
  | label l => intro an k Ks s hk he; exact hk.normal _ he
  | exit id => intro an k Ks s hk he; exact hk.exit _ _ he
  | ret => intro an k Ks s hk he; exact hk.ret _ he
  | goto l => intro an k Ks s hk he; simp [exec, execG] at he
  | refuse l => intro an k Ks s hk he; simp [exec, execG] at he
  | rangeFunc f ps x y => intro an k Ks s hk he; simp [exec, execG] at he
  | region r ops draw =>
    intro an k Ks s hk he
    cases draw with
    | false => simp only [exec, execG, rgOf, rqOf] at he ⊢; exact regionC_late hc hk _ _ _ _ _ he
    | true =>
      simp only [exec, execG, rgOf, rqOf] at he ⊢
      cases hck : drawChk P (A.quiet s.h.length) r ops.toList s.ob with
      | false => rw [hck] at he; simp at he
      | true =>
        rw [hck] at he
        simp only [cond_true] at he ⊢
        exact regionQC_late hc (fun fr ob h hh => hk.normal _ hh) _ _ _ _ _ _ _ .nil he
  | seq x y ihx ihy =>
    intro an k Ks s hk he
    simp only [exec, execG, rgOf, rqOf] at he ⊢
    exact ihx _ { k with normal := fun s' => exec P A call n y an.b k (an.b.enter s') } (fun m => { Ks m with normal := fun s' => exec P A (C m) m y an.b (Ks m) (an.b.enter s') }) _ ⟨fun s h => ihy _ _ _ _ hk h, hk.exit, hk.ret, hk.pan⟩ he
  | cond c x y ihx ihy =>
    intro an k Ks s hk he
    simp only [exec, execG, rgOf, rqOf] at he ⊢
    unfold condA at he ⊢
    split at he
    · rename_i t ht
      cases t with
      | true => simp only [if_true] at he ⊢; exact ihx _ _ _ _ hk he
      | false => simp only [Bool.false_eq_true, if_false] at he ⊢; exact ihy _ _ _ _ hk he
    · cases he
  | block id c ih =>
    intro an k Ks s hk he
    simp only [exec, execG, rgOf, rqOf] at he ⊢
    refine ih _ { k with exit := fun j s' => bif j == id then k.normal s' else k.exit j s' } (fun m => { Ks m with exit := fun j s' => bif j == id then (Ks m).normal s' else (Ks m).exit j s' }) _ ⟨hk.normal, fun j s h => ?_, hk.ret, hk.pan⟩ he
    simp only at h ⊢
    cases hj : j == id with
    | true => rw [hj] at h; exact hk.normal _ h
    | false => rw [hj] at h; exact hk.exit _ _ h
  | scope c ih => intro an k Ks s hk he; simp only [exec, execG, rgOf, rqOf] at he ⊢; exact ih _ _ _ _ hk he
  | loop c ih =>
    intro an k Ks s hk he
    simp only [exec, execG, rgOf, rqOf] at he ⊢
    have key : ∀ (j : Nat) (s : St), loopN (fun again s' => exec P A call n c an.a { k with normal := fun s'' => again (an.a.enter s'') } s') j s = some res →
        ∀ f : Nat → Nat, (∀ b, Late fun m => b ≤ f m) → Late fun m => loopN (fun again s' => exec P A (C m) m c an.a { Ks m with normal := fun s'' => again (an.a.enter s'') } s') (f m) s = some res := by
      intro j
      induction j with
      | zero => intro s h; simp [loopN] at h
      | succ j ihj =>
        intro s h f hf
        simp only [loopN] at h
        have h1 := ih an.a { k with normal := fun s'' => loopN (fun again s' => exec P A call n c an.a { k with normal := fun s'' => again (an.a.enter s'') } s') j (an.a.enter s'') } (fun m => { Ks m with normal := fun s'' => loopN (fun again s' => exec P A (C m) m c an.a { Ks m with normal := fun s'' => again (an.a.enter s'') } s') (f m - 1) (an.a.enter s'') }) s
          ⟨fun s h => ihj _ h (fun m => f m - 1) (fun b => (hf (b + 1)).imp fun m hm => by omega), hk.exit, hk.ret, hk.pan⟩ h
        refine (h1.and (hf 1)).imp fun m hm => ?_
        obtain ⟨q, hq⟩ : ∃ q, f m = q + 1 := ⟨f m - 1, by omega⟩
        have h2 := hm.1
        rw [hq] at h2 ⊢
        simp only [loopN]
        exact h2
    exact key n _ he (fun m => m) (fun b => ⟨b, fun m hm => hm⟩)
theorem execD_late {call : Cl} {C : Nat → Cl} (hc : CC call C) {A : FAnn} {n : Nat} {res : R} {v : AV} : ∀ (c : Code) (an : Ann) (k : K R) (Ks : Nat → K R) (s : St), KC k Ks res → execD P A call n c an k v s = some res → Late fun m => execD P A (C m) m c an (Ks m) v s = some res := by
  intro c
  induction c with
  | region r ops draw =>
    intro an k Ks s hk he
    cases draw with
    | true => simp [execD] at he
    | false =>
      simp only [execD, regionD] at he ⊢
      cases hops : ops.toList with
      | nil => rw [hops] at he; cases he
      | cons o rest =>
        rw [hops] at he
        simp only at he ⊢
        cases hr : isRecover o with
        | false => rw [hr] at he; cases he
        | true =>
          rw [hr] at he
          simp only [cond_true] at he ⊢
          exact regionC_late hc hk _ _ _ _ _ he
  | seq x y ihx ihy =>
    intro an k Ks s hk he
    simp only [execD] at he ⊢
    exact ihx _ { k with normal := fun s' => exec P A call n y an.b k (an.b.enter s') } (fun m => { Ks m with normal := fun s' => exec P A (C m) m y an.b (Ks m) (an.b.enter s') }) _ ⟨fun s h => exec_late hc y _ _ _ _ hk h, hk.exit, hk.ret, hk.pan⟩ he
  | _ => intro an k Ks s hk he; simp [execD] at he
theorem dcall_eq {call : Cl} {A : FAnn} {n : Nat} {f : FuncId} {d : DAnn} {fn : Func} {c : Code} (hd : lookN f A.df = some d) (hf : P.funcs[f]? = some fn) (hb : fn.body = some c) {args : List AV} (hok : (resOk fn && Nat.ble args.length fn.ntmps && Nat.beq fn.results.size 0) = true) {h : H} {v : AV} :
    dcall P A call n f args h v = execD P { d.toF with nt := fn.ntmps } call n c d.an kDef v (d.an.enter ⟨argFr 0 args, [], [], h⟩) := by
  unfold dcall
  rw [hd, hf]
  simp only
  rw [hb]
  simp only
  rw [if_pos hok]
theorem dcall_late {call : Cl} {C : Nat → Cl} (hc : CC call C) {A : FAnn} {n : Nat} {f : FuncId} {args : List AV} {h h' : H} {v : AV} (he : dcall P A call n f args h v = some h') : Late fun m => dcall P A (C m) m f args h v = some h' := by
  have hx := he
  unfold dcall at hx
  split at hx
  · rename_i d fn hd hf
    split at hx
    · rename_i c hb
      split at hx
      · rename_i hok
        refine (execD_late hc c _ _ (fun _ => kDef) _ ⟨fun _ h => .of fun _ => h, fun _ _ h => .of fun _ => h, fun _ h => .of fun _ => h, fun _ _ h => .of fun _ => h⟩ hx).imp fun m hm => ?_
        rw [dcall_eq hd hf hb hok]
        exact hm
      · cases hx
    · cases hx
  · cases hx
theorem leaveA_late {dc : FuncId → List AV → H → AV → Option H} {dcs : Nat → FuncId → List AV → H → AV → Option H} (hdc : ∀ f args h v h', dc f args h v = some h' → Late fun m => dcs m f args h v = some h') {fn : Func} {fr : List (Nat × AV)} {ob : List (Nat × Nat)} {r : AEnd × H} :
    ∀ (ds : List ADef) (m : Option AV) (h : H), leaveA P dc fn ds m fr ob h = some r → Late fun k => leaveA P (dcs k) fn ds m fr ob h = some r
  | [], none, h, he => .of fun _ => he
  | [], some v, h, he => .of fun _ => he
  | d :: ds, none, h, he => by
    simp only [leaveA, Option.bind_eq_some_iff] at he
    obtain ⟨h', h1, h2⟩ := he
    exact ((hdc _ _ _ _ _ h1).and (leaveA_late hdc ds none h' h2)).imp fun k hk => by simp only [leaveA, hk.1, Option.bind_some]; exact hk.2
  | d :: ds, some v, h, he => by
    simp only [leaveA, Option.bind_eq_some_iff] at he
    obtain ⟨h', h1, h2⟩ := he
    exact ((hdc _ _ _ _ _ h1).and (leaveA_late hdc ds none h' h2)).imp fun k hk => by simp only [leaveA, hk.1, Option.bind_some]; exact hk.2
theorem body_late {call : Cl} {C : Nat → Cl} (hc : CC call C) {A : FAnn} {fn : Func} {an : Ann} {n : Nat} {c : Code} {args : List AV} {h : H} {r : AEnd × H} (he : body P A call fn an n c args h = some r) : Late fun m => body P A (C m) fn an m c args h = some r :=
  exec_late hc c an _ (fun m => kTop P A (C m) m fn) _ ⟨fun _ h => leaveA_late (fun _ _ _ _ _ hd => dcall_late hc hd) _ _ _ h, fun _ _ h => .of fun _ => h, fun _ h => leaveA_late (fun _ _ _ _ _ hd => dcall_late hc hd) _ _ _ h, fun _ _ h => leaveA_late (fun _ _ _ _ _ hd => dcall_late hc hd) _ _ _ h⟩ he
def Den (P : Program) (pol : Pol) (f : FuncId) (args : List AV) (h : H) (r : AEnd × H) : Prop := Late fun n => acall P pol n f args h = some r
theorem Den.uniq {pol : Pol} {f : FuncId} {args : List AV} {h : H} {r r' : AEnd × H} (h1 : Den P pol f args h r) (h2 : Den P pol f args h r') : r = r' := by
  obtain ⟨N, hN⟩ := h1.and h2
  obtain ⟨a, b⟩ := hN N (Nat.le_refl _)
  rw [a] at b
  cases b; rfl
open Classical in
noncomputable def den (P : Program) (pol : Pol) : Cl := fun f args h => if hx : ∃ r, Den P pol f args h r then some hx.choose else none
theorem den_iff {pol : Pol} {f : FuncId} {args : List AV} {h : H} {r : AEnd × H} : den P pol f args h = some r ↔ Den P pol f args h r := by
  unfold den
  constructor
  · intro hd
    split at hd
    · rename_i hx; cases hd; exact hx.choose_spec
    · cases hd
  · intro hd
    have hx : ∃ r, Den P pol f args h r := ⟨r, hd⟩
    rw [dif_pos hx]
    rw [hx.choose_spec.uniq hd]
theorem den_cc (pol : Pol) : CC (den P pol) (acall P pol) := fun _ _ _ _ h => den_iff.1 h
theorem den_pure {pol : Pol} {f : FuncId} {fn : Func} {c : Code} (hx : pol.ext f = none) (hf : P.funcs[f]? = some fn) (hb : fn.body = some c) (hm : pol.mode f = 0) {args : List AV} {h : H} (hok : (resOk fn && Nat.ble args.length fn.ntmps && (pol.ann f).1.q.all pol.still) = true) (n : Nat) {r : AEnd × H}
    (he : retChk fn (pureCall (body P (pol.ann f).1 (den P pol) fn (pol.ann f).2 n c) args h) = some r) : den P pol f args h = some r := by
  refine den_iff.2 ?_
  have key : Late fun m => retChk fn (pureCall (body P (pol.ann f).1 (acall P pol m) fn (pol.ann f).2 m c) args h) = some r := by
    unfold retChk pureCall at he ⊢
    cases hmm : args.mapM (AV.freeze h) with
    | none => rw [hmm] at he; simp at he
    | some as₁ =>
      rw [hmm] at he
      simp only at he ⊢
      cases hp : pureL as₁ with
      | false => rw [hp] at he; simp at he
      | true =>
        rw [hp] at he
        simp only [if_true] at he ⊢
        cases hbd : body P (pol.ann f).1 (den P pol) fn (pol.ann f).2 n c as₁ [] with
        | none => rw [hbd] at he; simp at he
        | some r0 =>
          rw [hbd] at he
          exact (body_late (den_cc pol) hbd).imp fun m hm => by rw [hm]; exact he
  obtain ⟨N, hN⟩ := key
  refine ⟨N + 1, fun m hm' => ?_⟩
  obtain ⟨q, rfl⟩ : ∃ q, m = q + 1 := ⟨m - 1, by omega⟩
  unfold acall
  simp only [hx, hf, hb, hok, if_true, hm]
  exact hN q (by omega)
theorem den_here {pol : Pol} {f : FuncId} {fn : Func} {c : Code} (hx : pol.ext f = none) (hf : P.funcs[f]? = some fn) (hb : fn.body = some c) (hm : pol.mode f ≠ 0) {args : List AV} {h : H} (hok : (resOk fn && Nat.ble args.length fn.ntmps && (pol.ann f).1.q.all pol.still) = true) (n : Nat) {r : AEnd × H}
    (he : retChk fn (body P (pol.ann f).1 (den P pol) fn (pol.ann f).2 n c args h) = some r) : den P pol f args h = some r := by
  refine den_iff.2 ?_
  have key : Late fun m => retChk fn (body P (pol.ann f).1 (acall P pol m) fn (pol.ann f).2 m c args h) = some r := by
    unfold retChk at he ⊢
    cases hbd : body P (pol.ann f).1 (den P pol) fn (pol.ann f).2 n c args h with
    | none => rw [hbd] at he; simp at he
    | some r0 =>
      rw [hbd] at he
      exact (body_late (den_cc pol) hbd).imp fun m hm => by rw [hm]; exact he
  obtain ⟨N, hN⟩ := key
  refine ⟨N + 1, fun m hm' => ?_⟩
  obtain ⟨q, rfl⟩ : ∃ q, m = q + 1 := ⟨m - 1, by omega⟩
  unfold acall
  simp only [hx, hf, hb, hok, if_true, hm, if_false]
  exact hN q (by omega)
theorem den_sound {pol : Pol} (hpol : PolOk P pol) : CallOk P (den P pol) := by
  intro f args h r he
  obtain ⟨N, hN⟩ := den_iff.1 he
  exact acall_sound hpol N f args h r (hN N (Nat.le_refl _))
end
end Go.Ve
