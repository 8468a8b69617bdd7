/- VE: regions whose order is drawn: what an operation rests on. -/
import Derived.Test.YtigkhjmlomogmaaVa2
import Derived.Orders
import Derived.Scope
set_option linter.all false

namespace Go.Ve
open Go

section
variable {P : Program} {A : FAnn} {r i : Nat} {fr fr' : List (Nat × AV)} {ob : List (Nat × Nat)} {h l : H} {call : Cl} {all : List Oper} {o : Oper}

theorem valOp_like' {op : Op} (hl : Like (opTmps op) fr fr') : valOp P A r i fr ob h op = valOp P A r i fr' ob h op := by
  by_cases hp : plainOp op = true
  · exact valOp_like hp hl
  · cases op <;> try (simp [plainOp] at hp; done)
    rename_i c
    obtain ⟨callee, args, tys⟩ := c
    cases callee with
    | value f => simp [plainOp] at hp
    | invoke r m => simp [plainOp] at hp
    | builtin b =>
      cases b <;> first | (simp [plainOp] at hp; done) | skip
      simp only [valOp]
      split
      · rename_i x y t t2 hx ht
        have m1 : x ∈ args := by rw [← Array.mem_toList_iff, hx]; simp
        have m2 : y ∈ args := by rw [← Array.mem_toList_iff, hx]; simp
        rw [vOf_like hl (x := x) (by simpa [Op.operands, Call.operands] using m1), vOf_like hl (x := y) (by simpa [Op.operands, Call.operands] using m2)]
      · rfl

theorem heapOp_like {op : Op} (hl : Like (opTmps op) fr fr') : heapOp P A r i fr ob h op = heapOp P A r i fr' ob h op := by
  have v := fun {x} hx => vOf_like (op := op) hl (x := x) hx
  cases op <;> try rfl
  case box t x => simp [heapOp, v (x := x) (by simp [Op.operands])]
  case store t x y => simp [heapOp, v (x := x) (by simp [Op.operands]), v (x := y) (by simp [Op.operands])]
  case makeSlice t x y => simp [heapOp, v (x := x) (by simp [Op.operands]), v (x := y) (by simp [Op.operands])]
  case mapUpdate t x y z => simp [heapOp, v (x := x) (by simp [Op.operands]), v (x := y) (by simp [Op.operands]), v (x := z) (by simp [Op.operands])]
  case insert t x y z => simp [heapOp, v (x := x) (by simp [Op.operands]), v (x := y) (by simp [Op.operands]), v (x := z) (by simp [Op.operands])]
  case range t x => simp [heapOp, v (x := x) (by simp [Op.operands])]
  case next x s => simp [heapOp, v (x := x) (by simp [Op.operands])]
  case load t x => simp [heapOp, v (x := x) (by simp [Op.operands])]

theorem gated_like {α : Type} {x : Option α} {y : α} (hl : Like (looks all o) fr fr') : gated all fr o x y = gated all fr' o x y := by
  unfold gated
  split
  · rfl
  · rename_i j w hg
    split
    · rename_i t ht
      rw [hl t (by simp [looks, hg, ht])]
    · rfl
theorem like_ops (hl : Like (looks all o) fr fr') : Like (opTmps o.op) fr fr' := fun t ht => hl t (List.mem_append_left _ ht)

theorem call_of {f : Operand} {args : Array Operand} (hk : kindOf A r i o.op = .call f args) : ∃ c : Call, o.op = .call c ∧ c.callee = .value f ∧ c.args = args := by
  unfold kindOf at hk
  split at hk <;> first | (cases hk; done) | skip
  · split at hk <;> cases hk
  · rename_i hoo
    cases hk
    exact ⟨_, hoo, rfl, rfl⟩

/-- A step, by itself. -/
def stp (P : Program) (A : FAnn) (call : Cl) (r : Nat) (all : List Oper) (ob : List (Nat × Nat)) (i : Nat) (o : Oper) (fr : List (Nat × AV)) (h : H) : Option (AV × H) :=
  stepQ P A call r all ob i o fr h fun v h => some (v, h)

theorem stepQ_eq {R : Type} {k : AV → H → Option R} : stepQ P A call r all ob i o fr h k = (stp P A call r all ob i o fr h).bind fun p => k p.1 p.2 := by
  unfold stp stepQ
  split
  · split
    · rfl
    · simp [Option.bind_assoc]
    · rfl
  · split
    · rfl
    · simp [Option.bind_assoc]
    · rfl
  · simp [Option.bind_assoc]
  · simp [Option.bind_assoc]
  · rw [Option.bind_assoc]
    congr 1
    funext p
    cases p.1 <;> rfl
  · rfl

theorem stp_like (hl : Like (looks all o) fr fr') : stp P A call r all ob i o fr h = stp P A call r all ob i o fr' h := by
  unfold stp stepQ
  split
  · rw [totOp_like (like_ops hl)]
    split
    · rfl
    · rw [gated_like hl]
    · rfl
  · split
    · rfl
    · rw [gated_like hl]
    · rfl
  · rw [valOp_like' (like_ops hl), gated_like hl]
  · rw [heapOp_like (like_ops hl), gated_like hl]
  · rename_i f args hk
    obtain ⟨c, ho, hc, hca⟩ := call_of hk
    have ho' := like_ops hl
    have hm : ∀ x ∈ args, x ∈ o.op.operands := fun x hx => by rw [ho, ← hca] at *; simp [Op.operands, Call.operands, hx]
    have hf : vOf fr f = vOf fr' f := vOf_like ho' (by rw [ho]; simp [Op.operands, Call.operands, hc])
    have ha : (callArgs A f fr args) = (callArgs A f fr' args) := by
      unfold callArgs
      have k1 : (args.toList.map fun x => (vOf fr x).copy) = args.toList.map fun x => (vOf fr' x).copy := List.map_congr_left fun x hx => by rw [vOf_like ho' (hm x (by simpa using hx))]
      have k2 : (args.toList.map fun x => (vOf fr x).canon) = args.toList.map fun x => (vOf fr' x).canon := List.map_congr_left fun x hx => by rw [vOf_like ho' (hm x (by simpa using hx))]
      rw [k1, k2]
    rw [hf, ha, gated_like hl]
  · rfl

/-! ### told by cases -/
theorem bindA_eq {α R : Type} (x : Option α) (f : α → Option R) : bindA x f = x.bind f := by cases x <;> rfl
theorem withV_plain {R : Type} {g : Bool} {v : AV} {k : AV → Option R} {res : R} (h : withV g v k = some res) : k v = some res := by
  unfold withV at h
  cases g with
  | false => exact h
  | true =>
    simp only [cond_true] at h
    unfold condA at h
    split at h
    · rename_i t
      cases t with
      | true => exact h
      | false => exact h
    · cases h

theorem gateK_cases {R α : Type} {x : Option α} {y : α} {f : α → Option R} {fx : α → Option R} {z : Option R} {res : R} (h : gateK all fr o (bindA x fx) z = some res) (hx : ∀ a, fx a = some res → f a = some res) (hz : z = some res → f y = some res) : (gated all fr o x y).bind f = some res := by
  unfold gateK at h
  unfold gated
  have hb : bindA x fx = some res → x.bind f = some res := by
    intro h
    rw [bindA_eq] at h
    rw [Option.bind_eq_some_iff] at h ⊢
    obtain ⟨a, h1, h2⟩ := h
    exact ⟨a, h1, hx a h2⟩
  split
  · rename_i hg; rw [hg] at h; exact hb h
  · rename_i j w hg
    rw [hg] at h
    simp only at h
    split
    · rename_i t ht
      rw [ht] at h
      simp only at h
      unfold gate at *
      split
      · rename_i b hb2
        rw [hb2] at h
        simp only at h
        split
        · rename_i hw; rw [if_pos hw] at h; exact hb h
        · rename_i hw; rw [if_neg hw] at h; exact hz h
      · rename_i hb2; rw [hb2] at h; exact hz h
      · rename_i h3 h4
        split at h
        · rename_i hb2; exact absurd hb2 (h3 _)
        · rename_i hb2; exact absurd hb2 h4
        · cases h
    · rename_i ht
      rw [ht] at h
      cases h

theorem off_call {f : Operand} {args : Array Operand} (hk : kindOf A r i o.op = .call f args) : offOf A r i ob o.op = ob := by
  obtain ⟨c, ho, hc, _⟩ := call_of hk
  rw [ho]
  obtain ⟨callee, args', tys⟩ := c
  simp only at hc
  subst hc
  rfl

theorem regionC_plain {R : Type} {k : K R} {res : R} : ∀ (l : List (Nat × Oper)) (fr : List (Nat × AV)) (ob : List (Nat × Nat)) (ds : List ADef) (h : H), regionC P A call r all k l fr ob ds h = some res → region P A call r all k l fr ob ds h = some res
  | [], _, _, _, _, h => h
  | (i, o) :: l, fr, ob, ds, h, he => by
    have ih := regionC_plain (k := k) (res := res) l
    unfold regionC at he
    unfold region
    split at he
    · simp only [strict_eq] at he ⊢
      have key : (gated all fr o (totOp P fr o.op) (.tuple [])).bind (fun v => region P A call r all k l (putV A.nt o.dst v fr) (putM o.dst (maskOf A r i ob o.op) (offOf A r i ob o.op)) ds h) = some res :=
        gateK_cases he (fun v hv => ih _ _ _ _ (withV_plain hv)) (fun hz => ih _ _ _ _ hz)
      split
      · rename_i v hg hv
        simp only [gated, hg, hv, Option.bind_some] at key
        exact key
      · exact key
      · rename_i hg hv
        simp [gated, hg, hv] at key
    · simp only [strict_eq] at he ⊢
      have key : (gated all fr o (newOp P h o.op) (.tuple [], h)).bind (fun p => region P A call r all k l (putV A.nt o.dst p.1 fr) (putM o.dst (maskOf A r i ob o.op) (offOf A r i ob o.op)) ds p.2) = some res :=
        gateK_cases he (fun p hp => ih _ _ _ _ hp) (fun hz => ih _ _ _ _ hz)
      split
      · rename_i v hg hv
        simp only [gated, hg, hv, Option.bind_some] at key
        exact key
      · exact key
      · rename_i hg hv
        simp [gated, hg, hv] at key
    · simp only [strict_eq] at he ⊢
      exact gateK_cases he (fun v hv => ih _ _ _ _ (withV_plain hv)) (fun hz => ih _ _ _ _ hz)
    · simp only [strict_eq] at he ⊢
      exact gateK_cases he (fun p hp => ih _ _ _ _ (withV_plain hp)) (fun hz => ih _ _ _ _ hz)
    · rename_i f args hk
      refine gateK_cases he (fun p hp => ?_) (fun hz => ih _ _ _ _ hz)
      obtain ⟨e, h'⟩ := p
      cases e with
      | ret v =>
        simp only [retOr] at hp
        exact ih _ _ _ _ (withV_plain hp)
      | pan v => exact hp
    · exact he

theorem regionQC_plain {R : Type} {k : List (Nat × AV) → H → Option R} {res : R} : ∀ (l : List (Nat × Oper)) (fr : List (Nat × AV)) (h : H), regionQC P A call r all ob k l fr h = some res → regionQ P A call r all ob k l fr h = some res
  | [], _, _, h => h
  | (i, o) :: l, fr, h, he => by
    have ih := regionQC_plain (k := k) (res := res) l
    unfold regionQC at he
    unfold regionQ stepQ
    split at he
    · have key : (gated all fr o (totOp P fr o.op) (.tuple [])).bind (fun v => regionQ P A call r all ob k l (putV A.nt o.dst v fr) h) = some res :=
        gateK_cases he (fun v hv => ih _ _ (withV_plain hv)) (fun hz => ih _ _ hz)
      simp only
      split
      · rename_i v hg hv
        simp only [gated, hg, hv, Option.bind_some] at key
        exact key
      · exact key
      · rename_i hg hv
        simp [gated, hg, hv] at key
    · have key : (gated all fr o (newOp P h o.op) (.tuple [], h)).bind (fun p => regionQ P A call r all ob k l (putV A.nt o.dst p.1 fr) p.2) = some res :=
        gateK_cases he (fun p hp => ih _ _ hp) (fun hz => ih _ _ hz)
      simp only
      split
      · rename_i v hg hv
        simp only [gated, hg, hv, Option.bind_some] at key
        exact key
      · exact key
      · rename_i hg hv
        simp [gated, hg, hv] at key
    · exact gateK_cases he (fun v hv => ih _ _ (withV_plain hv)) (fun hz => ih _ _ hz)
    · exact gateK_cases he (fun p hp => ih _ _ (withV_plain hp)) (fun hz => ih _ _ hz)
    · refine gateK_cases he (fun p hp => ?_) (fun hz => ih _ _ hz)
      obtain ⟨e, h'⟩ := p
      cases e with
      | ret v =>
        simp only [retOr] at hp
        exact ih _ _ (withV_plain hp)
      | pan v => exact hp
    · exact he

/-- What a call by value alone keeps. -/
def Still (call : Cl) (f : FuncId) : Prop := ∀ args h e h', call f args h = some (e, h') → h' = h ∧ ∀ l, call f args (h ++ l) = some (e, h ++ l)

theorem gated_map {α : Type} {x x' : Option α} {y z : α} (h : gated all fr o x y = some z) (hx : ∀ z, x = some z → x' = some z) : gated all fr o x' y = some z := by
  unfold gated at *
  split
  · rename_i hg; rw [hg] at h; exact hx _ h
  · rename_i j w hg
    rw [hg] at h
    simp only at h
    split
    · rename_i t ht
      rw [ht] at h
      simp only at h
      unfold gate at *
      split
      · rename_i b hb
        rw [hb] at h
        simp only at h
        split
        · rename_i hw; rw [if_pos hw] at h; exact hx _ h
        · rename_i hw; rw [if_neg hw] at h; exact h
      · rename_i hb; rw [hb] at h; exact h
      · rename_i h1 h2
        split at h
        · rename_i hb; exact absurd hb (h1 _)
        · rename_i hb; exact absurd hb h2
        · cases h
    · rename_i ht
      rw [ht] at h
      exact h
theorem gated_or {α : Type} {x : Option α} {y z : α} (h : gated all fr o x y = some z) : x = some z ∨ z = y := by
  unfold gated at h
  split at h
  · exact .inl h
  · split at h
    · unfold gate at h
      split at h
      · split at h
        · exact .inl h
        · cases h; exact .inr rfl
      · cases h; exact .inr rfl
      · cases h
    · cases h
/-- The part of a guarded step that is passed by. -/
theorem gated_pair {x x' : Option (AV × H)} {h h2 : H} {v : AV} {h' : H} (he : gated all fr o x (.tuple [], h) = some (v, h')) (hx : ∀ v h', x = some (v, h') → h' = h ∧ x' = some (v, h2)) : h' = h ∧ gated all fr o x' (.tuple [], h2) = some (v, h2) := by
  unfold gated at *
  split
  · rename_i hg; rw [hg] at he; exact hx _ _ he
  · rename_i j w hg
    rw [hg] at he
    simp only at he
    split
    · rename_i t ht
      rw [ht] at he
      simp only at he
      unfold gate at *
      split
      · rename_i b hb
        rw [hb] at he
        simp only at he
        split
        · rename_i hw; rw [if_pos hw] at he; exact hx _ _ he
        · rename_i hw; rw [if_neg hw] at he; cases he; exact ⟨rfl, rfl⟩
      · rename_i hb; rw [hb] at he; cases he; exact ⟨rfl, rfl⟩
      · rename_i h1 h2
        split at he
        · rename_i hb; exact absurd hb (h1 _)
        · rename_i hb; exact absurd hb h2
        · cases he
    · rename_i ht
      rw [ht] at he
      cases he

theorem rowsOf_more {s : Nat} {b : Bool} {x : AV} {rows : List (List AV)} (he : rowsOf s b h x = some rows) : rowsOf s b (h ++ l) x = some rows := by
  unfold rowsOf at he ⊢
  split at he
  · exact he
  · split at he
    · rename_i hid; simp only [obj_more hid]; exact he
    · cases he
  · exact he
  · cases he
theorem valOp_more' {op : Op} {v : AV} (he : valOp P A r i fr ob h op = some v) : valOp P A r i fr ob (h ++ l) op = some v := by
  by_cases hp : plainOp op = true
  · exact valOp_more hp he
  · cases op <;> try (simp [plainOp] at hp; done)
    rename_i c
    obtain ⟨callee, args, tys⟩ := c
    cases callee with
    | value f => simp [plainOp] at hp
    | invoke r m => simp [plainOp] at hp
    | builtin b =>
      cases b <;> first | (simp [plainOp] at hp; done) | skip
      simp only [valOp] at he ⊢
      split at he
      · split at he
        · rename_i e het
          split at he
          · rename_i hc
            rw [if_pos hc]
            unfold appendTo at he ⊢
            split at he
            · rename_i z hz
              split at he
              · rename_i hzz
                rw [if_pos hzz]
                unfold apSlice at he ⊢
                split at he
                · simp only [Option.bind_eq_some_iff] at he ⊢
                  obtain ⟨more, h1, h2⟩ := he
                  exact ⟨more, rowsOf_more h1, h2⟩
                · cases he
              · cases he
            · cases he
          · cases he
        · cases he
      · cases he

/-- Which operations do not look at the heap. -/
theorem valOp_still {op : Op} (hk : kindOf A r i op = .val) (hc : clsOf A r i op = 0) (h2 : H) : valOp P A r i fr ob h op = valOp P A r i fr ob h2 op := by
  unfold clsOf at hc
  rw [hk] at hc
  simp only at hc
  cases op <;> first | rfl | (simp at hc; done) | skip
  rename_i c
  obtain ⟨callee, args, tys⟩ := c
  cases callee with
  | value f => simp at hc
  | invoke r m => simp at hc
  | builtin b => cases b <;> first | rfl | (simp at hc; done)

theorem stp_still (hc : clsOf A r i o.op = 0) {v : AV} {h' : H} (he : stp P A call r all ob i o fr h = some (v, h')) : h' = h ∧ ∀ h2, stp P A call r all ob i o fr h2 = some (v, h2) := by
  cases hk : kindOf A r i o.op with
  | tot =>
    unfold stp stepQ at *
    rw [hk] at he ⊢
    simp only at he ⊢
    split at he
    · cases he; exact ⟨rfl, fun _ => rfl⟩
    · simp only [Option.bind_eq_some_iff] at he ⊢
      obtain ⟨a, h1, h2⟩ := he
      cases h2
      exact ⟨rfl, fun _ => ⟨_, h1, rfl⟩⟩
    · cases he
  | val =>
    unfold stp stepQ at *
    rw [hk] at he ⊢
    simp only [Option.bind_eq_some_iff] at he ⊢
    obtain ⟨a, h1, h2⟩ := he
    cases h2
    exact ⟨rfl, fun h2 => ⟨_, by rw [← valOp_still (h := h) hk hc h2]; exact h1, rfl⟩⟩
  | new => simp [clsOf, hk] at hc
  | heap => simp [clsOf, hk] at hc
  | pan x => simp [clsOf, hk] at hc
  | call f args =>
    simp only [clsOf, hk] at hc
    split at hc
    · cases hq : A.q.contains _ <;> rw [hq] at hc <;> simp at hc
    · cases hc

theorem stp_reader (hq : ∀ f ∈ A.q, Still call f) (hc : clsOf A r i o.op = 1) {v : AV} {h' : H} (he : stp P A call r all ob i o fr h = some (v, h')) : h' = h ∧ ∀ l, stp P A call r all ob i o fr (h ++ l) = some (v, h ++ l) := by
  cases hk : kindOf A r i o.op with
  | tot => simp [clsOf, hk] at hc
  | new => simp [clsOf, hk] at hc
  | heap => simp [clsOf, hk] at hc
  | pan x => simp [clsOf, hk] at hc
  | val =>
    unfold stp stepQ at *
    rw [hk] at he ⊢
    simp only [Option.bind_eq_some_iff] at he ⊢
    obtain ⟨a, h1, h2⟩ := he
    cases h2
    exact ⟨rfl, fun l => ⟨_, gated_map h1 fun z hz => valOp_more' hz, rfl⟩⟩
  | call f args =>
    simp only [clsOf, hk] at hc
    split at hc
    · rename_i g
      cases hg : A.q.contains g with
      | false => rw [hg] at hc; simp at hc
      | true =>
        have hst := hq g (by simpa using hg)
        unfold stp stepQ at *
        rw [hk] at he ⊢
        simp only [Option.bind_eq_some_iff] at he ⊢
        obtain ⟨⟨e, hp⟩, h1, h2⟩ := he
        cases e with
        | pan w => cases h2
        | ret w =>
          cases h2
          have key : ∀ l, True → hp = h ∧ gated all fr o (callVal call (h ++ l) (vOf fr (.func g)) (callArgs A (.func g) fr args)) (.ret (.tuple []), h ++ l) = some (.ret v, h ++ l) := by
            intro l _
            unfold gated at *
            have cv : ∀ e h', callVal call h (vOf fr (.func g)) (callArgs A (.func g) fr args) = some (e, h') → h' = h ∧ callVal call (h ++ l) (vOf fr (.func g)) (callArgs A (.func g) fr args) = some (e, h ++ l) := by
              intro e h' hcv
              simp only [callVal, vOf] at hcv ⊢
              exact ⟨(hst _ _ _ _ hcv).1, (hst _ _ _ _ hcv).2 l⟩
            split
            · rename_i hg; rw [hg] at h1; exact cv _ _ h1
            · rename_i j w hg
              rw [hg] at h1
              simp only at h1
              split
              · rename_i t ht
                rw [ht] at h1
                simp only at h1
                unfold gate at *
                split
                · rename_i b hb
                  rw [hb] at h1
                  simp only at h1
                  split
                  · rename_i hw; rw [if_pos hw] at h1; exact cv _ _ h1
                  · rename_i hw; rw [if_neg hw] at h1; cases h1; exact ⟨rfl, rfl⟩
                · rename_i hb; rw [hb] at h1; cases h1; exact ⟨rfl, rfl⟩
                · rename_i h3 h4
                  split at h1
                  · rename_i hb; exact absurd hb (h3 _)
                  · rename_i hb; exact absurd hb h4
                  · cases h1
              · rename_i ht
                rw [ht] at h1
                cases h1
          exact ⟨(key [] trivial).1, fun l => ⟨_, (key l trivial).2, rfl⟩⟩
    · cases hc

theorem stp_new (hc : clsOf A r i o.op = 2) {v : AV} {h' : H} (he : stp P A call r all ob i o fr h = some (v, h')) : ∃ l, h' = h ++ l := by
  have nw : ∀ v h', newOp P h o.op = some (v, h') → ∃ l, h' = h ++ l := by
    intro v h' hn
    unfold newOp at hn
    split at hn
    · split at hn
      · split at hn
        · cases hn; exact ⟨_, rfl⟩
        · cases hn
      · cases hn
    · cases hn; exact ⟨_, rfl⟩
    · cases hn
  cases hk : kindOf A r i o.op with
  | tot => simp [clsOf, hk] at hc
  | heap => simp [clsOf, hk] at hc
  | pan x => simp [clsOf, hk] at hc
  | val => simp only [clsOf, hk] at hc; split at hc <;> cases hc
  | call f args =>
    simp only [clsOf, hk] at hc
    split at hc
    · cases hq : A.q.contains _ <;> rw [hq] at hc <;> simp at hc
    · cases hc
  | new =>
    unfold stp stepQ at he
    rw [hk] at he
    simp only at he
    split at he
    · rename_i p hg hp
      cases he
      exact nw _ _ hp
    · simp only [Option.bind_eq_some_iff] at he
      obtain ⟨p, h1, h2⟩ := he
      cases h2
      rcases gated_or h1 with h1 | h1
      · exact nw _ _ h1
      · subst h1; exact ⟨[], by simp⟩
    · cases he
end
end Go.Ve

/- VE: regions whose order is drawn: any order comes to the same. -/
namespace Go.Ve
open Go

/-! ### what is bound ahead -/
def befOne (acc : List Nat) (o : Oper) : Nat := (directs o).foldl (fun m j => Nat.lor m (Nat.lor (Nat.shiftLeft 1 j) ((acc[j]?).getD 0))) 0

theorem befM_spec : ∀ (l : List Oper) (acc : List Nat), ∃ rs, befM l acc = acc ++ rs ∧ rs.length = l.length ∧ ∀ (j : Nat) o, l[j]? = some o → rs[j]? = some (befOne (acc ++ rs.take j) o)
  | [], acc => ⟨[], by simp [befM], rfl, by simp⟩
  | o :: l, acc => by
    obtain ⟨rs, h1, h2, h3⟩ := befM_spec l (acc ++ [befOne acc o])
    refine ⟨befOne acc o :: rs, ?_, by simp [h2], ?_⟩
    · show befM l (acc ++ [befOne acc o]) = _
      rw [h1]; simp
    · intro j p hp
      cases j with
      | zero => simp at hp; subst hp; simp
      | succ j =>
        simp only [List.getElem?_cons_succ] at hp ⊢
        rw [h3 j p hp]
        simp

theorem befOne_bit {acc : List Nat} {o : Oper} {i : Nat} (h : (befOne acc o).testBit i = true) : ∃ j ∈ directs o, i = j ∨ ((acc[j]?).getD 0).testBit i = true := by
  unfold befOne at h
  have key : ∀ (l : List Nat) (m : Nat), (l.foldl (fun m j => Nat.lor m (Nat.lor (Nat.shiftLeft 1 j) ((acc[j]?).getD 0))) m).testBit i = true → m.testBit i = true ∨ ∃ j ∈ l, i = j ∨ ((acc[j]?).getD 0).testBit i = true := by
    intro l
    induction l with
    | nil => intro m h; exact .inl h
    | cons j l ih =>
      intro m h
      rcases ih _ h with h | ⟨j', h1, h2⟩
      · have h' : (m ||| ((1 <<< j) ||| (acc[j]?).getD 0)).testBit i = true := h
        rw [Nat.testBit_or, Nat.testBit_or, Nat.one_shiftLeft, Nat.testBit_two_pow] at h'
        simp only [Bool.or_eq_true, decide_eq_true_eq] at h'
        rcases h' with h' | h' | h'
        · exact .inl h'
        · exact .inr ⟨j, by simp, .inl h'.symm⟩
        · exact .inr ⟨j, by simp, .inr h'⟩
      · exact .inr ⟨j', by simp [h1], h2⟩
  rcases key _ _ h with h | h
  · simp at h
  · exact h

def bef (all : List Oper) (k i : Nat) : Bool := (((befM all [])[k]?).getD 0).testBit i

theorem bef_closed {all : List Oper} {S : Nat → Prop} (hS : ∀ j o, S j → all[j]? = some o → ∀ i ∈ directs o, S i) : ∀ k, S k → ∀ i, bef all k i = true → S i := by
  obtain ⟨rs, h1, h2, h3⟩ := befM_spec all []
  simp only [List.nil_append] at h1 h3
  intro k
  induction k using Nat.strongRecOn with
  | ind k ih =>
    intro hk i hi
    unfold bef at hi
    rw [h1] at hi
    cases ho : all[k]? with
    | none =>
      rw [List.getElem?_eq_none (by rw [h2]; exact List.getElem?_eq_none_iff.1 ho)] at hi
      simp at hi
    | some o =>
      rw [h3 k o ho] at hi
      simp only [Option.getD_some] at hi
      obtain ⟨j, hj, hij⟩ := befOne_bit hi
      have hSj := hS k o hk ho j hj
      rcases hij with rfl | hij
      · exact hSj
      · by_cases hjk : j < k
        · refine ih j hjk hSj i ?_
          unfold bef
          rw [h1]
          rw [List.getElem?_take_of_lt hjk] at hij
          exact hij
        · rw [List.getElem?_eq_none (by simp; omega)] at hij
          simp at hij

section
variable {P : Program} {A : FAnn} {r : Nat} {ob : List (Nat × Nat)} {call : Cl} {all : List Oper}

theorem regionQ_eq {R : Type} {k : List (Nat × AV) → H → Option R} : ∀ (l : List (Nat × Oper)) (fr : List (Nat × AV)) (h : H), regionQ P A call r all ob k l fr h = (regionQ P A call r all ob (fun fr h => some (fr, h)) l fr h).bind fun p => k p.1 p.2
  | [], _, _ => rfl
  | (i, o) :: l, fr, h => by
    unfold regionQ
    rw [stepQ_eq, stepQ_eq, Option.bind_assoc]
    congr 1
    funext p
    exact regionQ_eq l _ _

/-- The run in the text's order, step by step. -/
structure Trace (P : Program) (A : FAnn) (call : Cl) (r : Nat) (all : List Oper) (ob : List (Nat × Nat)) (s : Nat) (l : List Oper) (fr : List (Nat × AV)) (h : H) (fr1 : List (Nat × AV)) (h1 : H) (V : Nat → AV) (Hp : Nat → H) (Fr : Nat → List (Nat × AV)) : Prop where
  f0 : Fr s = fr
  h0 : Hp s = h
  step : ∀ (j : Nat) o, l[j]? = some o → stp P A call r all ob (s + j) o (Fr (s + j)) (Hp (s + j)) = some (V (s + j), Hp (s + j + 1)) ∧ Fr (s + j + 1) = putV A.nt o.dst (V (s + j)) (Fr (s + j))
  fn : Fr (s + l.length) = fr1
  hn : Hp (s + l.length) = h1

theorem trace_of : ∀ (l : List Oper) (s : Nat) (fr : List (Nat × AV)) (h : H) (fr1 : List (Nat × AV)) (h1 : H), regionQ P A call r all ob (fun fr h => some (fr, h)) (enum s l) fr h = some (fr1, h1) → ∃ V Hp Fr, Trace P A call r all ob s l fr h fr1 h1 V Hp Fr
  | [], s, fr, h, fr1, h1, he => by
    simp only [enum, regionQ, Option.some.injEq, Prod.mk.injEq] at he
    exact ⟨fun _ => .undef, fun _ => h, fun _ => fr, rfl, rfl, by simp, he.1, he.2⟩
  | o :: l, s, fr, h, fr1, h1, he => by
    simp only [enum, regionQ] at he
    rw [stepQ_eq, Option.bind_eq_some_iff] at he
    obtain ⟨⟨v, h'⟩, hs, he⟩ := he
    obtain ⟨V, Hp, Fr, t⟩ := trace_of l (s + 1) _ _ _ _ he
    refine ⟨fun i => if i = s then v else V i, fun i => if i = s then h else Hp i, fun i => if i = s then fr else Fr i, ?_, ?_, ?_, ?_, ?_⟩
    · simp
    · simp
    · intro j p hp
      cases j with
      | zero =>
        simp only [List.getElem?_cons_zero, Option.some.injEq] at hp
        subst hp
        have e1 := t.h0
        have e2 := t.f0
        simp only at e1 e2
        simp [e1, e2, hs]
      | succ j =>
        simp only [List.getElem?_cons_succ] at hp
        have := t.step j p hp
        rw [show s + 1 + j = s + (j + 1) by omega] at this
        simpa [show s + (j + 1) ≠ s by omega, show s + (j + 1) + 1 ≠ s by omega] using this
    · have := t.fn
      simp only [List.length_cons]
      rw [show s + 1 + l.length = s + (l.length + 1) by omega] at this
      simpa [show s + (l.length + 1) ≠ s by omega] using this
    · have := t.hn
      simp only [List.length_cons]
      rw [show s + 1 + l.length = s + (l.length + 1) by omega] at this
      simpa [show s + (l.length + 1) ≠ s by omega] using this

/-- What the check says. -/
structure Chk (A : FAnn) (r : Nat) (all : List Oper) : Prop where
  edges : ∀ (i : Nat) o, all[i]? = some o → ∀ j ∈ directs o, j < i
  small : ∀ (i : Nat) o, all[i]? = some o → ∀ t ∈ opTmps o.op, t < A.nv
  self : ∀ (i : Nat) o, all[i]? = some o → ∀ d, o.dst = some d → d ∉ looks all o
  dst : ∀ (i j : Nat) o p, all[i]? = some o → all[j]? = some p → i < j → ∀ d, o.dst = some d → p.dst ≠ some d
  back : ∀ (i j : Nat) o p, all[i]? = some o → all[j]? = some p → i < j → ∀ d, p.dst = some d → d ∉ looks all o
  ahead : ∀ (i j : Nat) o p, all[i]? = some o → all[j]? = some p → i < j → ∀ d, o.dst = some d → d ∈ looks all p → bef all j i = true
  cls : ∀ (i j : Nat) o p, all[i]? = some o → all[j]? = some p → i < j → bef all j i = true ∨ clsOk (clsOf A r i o.op) (clsOf A r j p.op) = true

theorem mem_enum : ∀ (l : List Oper) (s j : Nat) (o : Oper), l[j]? = some o → (s + j, o) ∈ enum s l
  | [], _, _, _, h => by simp at h
  | p :: l, s, 0, o, h => by simp at h; subst h; simp [enum]
  | p :: l, s, j + 1, o, h => by
    simp only [List.getElem?_cons_succ] at h
    have := mem_enum l (s + 1) j o h
    rw [show s + 1 + j = s + (j + 1) by omega] at this
    simp [enum, this]

theorem chk_of (h : drawChk A r all = true) : Chk A r all := by
  unfold drawChk at h
  rw [List.all_eq_true] at h
  have one : ∀ (i : Nat) o, all[i]? = some o → ((directs o).all (fun j => Nat.blt j i) = true ∧ (opTmps o.op).all (fun t => Nat.blt t A.nv) = true ∧ inL o.dst (looks all o) = false) ∧ ∀ (j : Nat) p, all[j]? = some p → i < j → pairOk A r all (befM all []) i o j p = true := by
    intro i o hi
    have := h (i, o) (by have := mem_enum all 0 i o hi; simpa using this)
    simp only [Bool.and_eq_true, Bool.not_eq_true'] at this
    refine ⟨⟨this.1.1.1, this.1.1.2, this.1.2⟩, fun j p hj hij => ?_⟩
    have h2 := this.2
    rw [List.all_eq_true] at h2
    have h3 := h2 (j, p) (by have := mem_enum all 0 j p hj; simpa using this)
    simp only [Bool.or_eq_true] at h3
    rcases h3 with h3 | h3
    · exact absurd (Nat.le_of_ble_eq_true h3) (by omega)
    · exact h3
  have pr : ∀ (i j : Nat) o p, all[i]? = some o → all[j]? = some p → i < j → sameD o.dst p.dst = false ∧ inL p.dst (looks all o) = false ∧ (bef all j i = true ∨ (inL o.dst (looks all p) = false ∧ clsOk (clsOf A r i o.op) (clsOf A r j p.op) = true)) := by
    intro i j o p hi hj hij
    have := (one i o hi).2 j p hj hij
    unfold pairOk at this
    simp only [Bool.and_eq_true, Bool.not_eq_true', Bool.or_eq_true] at this
    exact ⟨this.1.1, this.1.2, this.2⟩
  refine ⟨?_, ?_, ?_, ?_, ?_, ?_, ?_⟩
  · intro i o hi e he
    have := (one i o hi).1.1
    rw [List.all_eq_true] at this
    exact Nat.le_of_ble_eq_true (this e he)
  · intro i o hi t ht
    have := (one i o hi).1.2.1
    rw [List.all_eq_true] at this
    exact Nat.le_of_ble_eq_true (this t ht)
  · intro i o hi d hd hm
    have := (one i o hi).1.2.2
    rw [hd] at this
    simp [inL] at this
    exact this hm
  · intro i j o p hi hj hij d hd hp
    have := (pr i j o p hi hj hij).1
    rw [hd, hp] at this
    simp [sameD] at this
  · intro i j o p hi hj hij d hd hm
    have := (pr i j o p hi hj hij).2.1
    rw [hd] at this
    simp [inL] at this
    exact this hm
  · intro i j o p hi hj hij d hd hm
    rcases (pr i j o p hi hj hij).2.2 with h | h
    · exact h
    · have := h.1
      rw [hd] at this
      simp [inL] at this
      exact absurd hm this
  · intro i j o p hi hj hij
    rcases (pr i j o p hi hj hij).2.2 with h | h
    · exact .inl h
    · exact .inr h.2

/-- An order in which each operation comes behind what is bound ahead of it. -/
def Valid (all : List Oper) : List Nat → (Nat → Prop) → Prop
  | [], S => ∀ i, i < all.length → S i
  | i :: l, S => ¬ S i ∧ (∃ o, all[i]? = some o ∧ ∀ j ∈ directs o, S j) ∧ Valid all l fun j => S j ∨ j = i

def put1 (nt : Nat) (t : Nat) (v : AV) : AV := bif Nat.blt t nt then v else .undef
theorem getV_put (nt : Nat) (d : Option Tmp) (v : AV) (fr : List (Nat × AV)) (t : Nat) : getV t (putV nt d v fr) = if d = some t then put1 nt t v else getV t fr := by
  cases d with
  | none => rfl
  | some d =>
    by_cases hd : d = t
    · subst hd
      simp only [putV, put1, if_true]
      cases Nat.blt d nt <;> simp [getV]
    · simp only [putV, Option.some.injEq, hd, if_false]
      cases Nat.blt d nt <;> simp [getV, beq_no hd]

/-- Writers: what makes something new, or turns the heap. -/
def wr (c : Nat) : Prop := 2 ≤ c

structure Inv (A : FAnn) (r : Nat) (all : List Oper) (fr0 : List (Nat × AV)) (V : Nat → AV) (Hp : Nat → H) (S : Nat → Prop) (fr : List (Nat × AV)) (h : H) : Prop where
  dir : ∀ j o, S j → all[j]? = some o → ∀ i ∈ directs o, S i
  a : ∀ (j : Nat) o, S j → all[j]? = some o → ∀ t, o.dst = some t → getV t fr = put1 A.nt t (V j)
  b : ∀ t, (∀ (j : Nat) o, S j → all[j]? = some o → o.dst ≠ some t) → getV t fr = getV t fr0
  c : ∃ m, h = Hp m ∧ m ≤ all.length ∧ (∀ (j : Nat) o, S j → all[j]? = some o → wr (clsOf A r j o.op) → j < m) ∧ (∀ (j : Nat) o, j < m → all[j]? = some o → wr (clsOf A r j o.op) → S j)

section
variable {fr0 : List (Nat × AV)} {h0 : H} {fr1 : List (Nat × AV)} {h1 : H} {V : Nat → AV} {Hp : Nat → H} {Fr : Nat → List (Nat × AV)}

/-- The text's own states are of that kind. -/
theorem Trace.frames (ck : Chk A r all) (t : Trace P A call r all ob 0 all fr0 h0 fr1 h1 V Hp Fr) : ∀ i, i ≤ all.length → (∀ (j : Nat) o, j < i → all[j]? = some o → ∀ d, o.dst = some d → getV d (Fr i) = put1 A.nt d (V j)) ∧ (∀ d, (∀ (j : Nat) o, j < i → all[j]? = some o → o.dst ≠ some d) → getV d (Fr i) = getV d fr0) := by
  intro i
  induction i with
  | zero =>
    intro _
    have := t.f0
    exact ⟨fun j _ hj => absurd hj (by omega), fun d _ => by rw [this]⟩
  | succ i ih =>
    intro hi
    obtain ⟨ih1, ih2⟩ := ih (by omega)
    have hio : all[i]? = some all[i] := by simp
    have hs := (t.step i _ hio).2
    simp only [Nat.zero_add] at hs
    refine ⟨fun j o hj ho d hd => ?_, fun d hd => ?_⟩
    · rw [hs, getV_put]
      by_cases hji : j = i
      · subst hji
        rw [hio] at ho
        cases ho
        simp [hd]
      · rw [if_neg (ck.dst j i o _ ho hio (by omega) d hd)]
        exact ih1 j o (by omega) ho d hd
    · rw [hs, getV_put, if_neg (hd i _ (by omega) hio)]
      exact ih2 d fun j o hj ho => hd j o (by omega) ho

theorem not_wr {c : Nat} (h : ¬ wr c) : c = 0 ∨ c = 1 := by unfold wr at h; omega

theorem Trace.still (hq : ∀ f ∈ A.q, Still call f) (t : Trace P A call r all ob 0 all fr0 h0 fr1 h1 V Hp Fr) {j : Nat} {o : Oper} (ho : all[j]? = some o) (hw : ¬ wr (clsOf A r j o.op)) : Hp (j + 1) = Hp j := by
  have hs := (t.step j o ho).1
  simp only [Nat.zero_add] at hs
  rcases not_wr hw with hc | hc
  · exact (stp_still hc hs).1
  · exact (stp_reader hq hc hs).1

/-- Between two places without a writer the heap stays. -/
theorem Trace.between (hq : ∀ f ∈ A.q, Still call f) (t : Trace P A call r all ob 0 all fr0 h0 fr1 h1 V Hp Fr) (m : Nat) : ∀ k, m ≤ k → k ≤ all.length → (∀ (j : Nat) o, m ≤ j → j < k → all[j]? = some o → ¬ wr (clsOf A r j o.op)) → Hp k = Hp m := by
  intro k
  induction k with
  | zero => intro h1 _ _; rw [show m = 0 by omega]
  | succ k ih =>
    intro h1 h2 h3
    by_cases hm : m = k + 1
    · rw [hm]
    · have hk : all[k]? = some all[k] := by simp
      rw [t.still hq hk (h3 k _ (by omega) (by omega) hk)]
      exact ih (by omega) (by omega) fun j o a b => h3 j o a (by omega)
/-- With makers alone between, it grows. -/
theorem Trace.grows (hq : ∀ f ∈ A.q, Still call f) (t : Trace P A call r all ob 0 all fr0 h0 fr1 h1 V Hp Fr) (m : Nat) : ∀ k, m ≤ k → k ≤ all.length → (∀ (j : Nat) o, m ≤ j → j < k → all[j]? = some o → wr (clsOf A r j o.op) → clsOf A r j o.op = 2) → ∃ l, Hp k = Hp m ++ l := by
  intro k
  induction k with
  | zero => intro h1 _ _; rw [show m = 0 by omega]; exact ⟨[], by simp⟩
  | succ k ih =>
    intro h1 h2 h3
    by_cases hm : m = k + 1
    · rw [hm]; exact ⟨[], by simp⟩
    · have hk : all[k]? = some all[k] := by simp
      obtain ⟨l, hl⟩ := ih (by omega) (by omega) fun j o a b => h3 j o a (by omega)
      by_cases hw : wr (clsOf A r k all[k].op)
      · have hs := (t.step k _ hk).1
        simp only [Nat.zero_add] at hs
        obtain ⟨l2, hl2⟩ := stp_new (h3 k _ (by omega) (by omega) hk hw) hs
        exact ⟨l ++ l2, by rw [hl2, hl, List.append_assoc]⟩
      · exact ⟨l, by rw [t.still hq hk hw, hl]⟩

theorem clsOk_wr {a b : Nat} (ha : wr a) (hb : wr b) : clsOk a b = false := by
  unfold wr at *
  match a, b with
  | 0, _ => omega
  | 1, _ => omega
  | _ + 2, 0 => omega
  | _ + 2, 1 => omega
  | _ + 2, _ + 2 => rfl
theorem clsOk_left {a : Nat} (ha : wr a) : clsOk a 1 = false := by
  unfold wr at *
  match a with
  | 0 => omega
  | 1 => omega
  | _ + 2 => rfl
theorem clsOk_right {b : Nat} (hb : wr b) (h : clsOk 1 b = true) : b = 2 := by
  unfold wr at *
  match b with
  | 0 => omega
  | 1 => omega
  | 2 => rfl
  | _ + 3 => simp [clsOk] at h

/-- One more step, at any time at which it may be taken. -/
theorem Inv.step (ck : Chk A r all) (hq : ∀ f ∈ A.q, Still call f) (t : Trace P A call r all ob 0 all fr0 h0 fr1 h1 V Hp Fr) {S : Nat → Prop} {fr : List (Nat × AV)} {h : H} (iv : Inv A r all fr0 V Hp S fr h)
    {i : Nat} {o : Oper} (ho : all[i]? = some o) (hi : ¬ S i) (hd : ∀ j ∈ directs o, S j) : ∃ h', stp P A call r all ob i o fr h = some (V i, h') ∧ Inv A r all fr0 V Hp (fun j => S j ∨ j = i) (putV A.nt o.dst (V i) fr) h' := by
  have hil : i < all.length := (List.getElem?_eq_some_iff.1 ho).1
  have hs := (t.step i o ho).1
  simp only [Nat.zero_add] at hs
  obtain ⟨f1, f2⟩ := t.frames ck i (by omega)
  have closed : ∀ k, S k → ∀ j, bef all k j = true → S j := bef_closed iv.dir
  have dir' : ∀ j p, (S j ∨ j = i) → all[j]? = some p → ∀ k ∈ directs p, S k ∨ k = i := by
    intro j p hj hp k hk
    rcases hj with hj | rfl
    · exact .inl (iv.dir j p hj hp k hk)
    · rw [ho] at hp; cases hp; exact .inl (hd k hk)
  have closed' : ∀ j, bef all i j = true → j ≠ i → S j := by
    intro j hj hji
    rcases bef_closed dir' i (.inr rfl) j hj with h | h
    · exact h
    · exact absurd h hji
  -- what it looks at
  have hlike : Like (looks all o) (Fr i) fr := by
    intro x hx
    by_cases hex : ∃ (j : Nat) (p : Oper), all[j]? = some p ∧ p.dst = some x
    · obtain ⟨j, p, hp, hpx⟩ := hex
      have hlt : j < i := by
        rcases Nat.lt_trichotomy j i with h | h | h
        · exact h
        · subst h; rw [ho] at hp; cases hp; exact absurd hx (ck.self j o ho x hpx)
        · exact absurd hx (ck.back i j o p ho hp h x hpx)
      have hb := ck.ahead j i p o hp ho hlt x hpx hx
      rw [f1 j p hlt hp x hpx, iv.a j p (closed' j hb (by omega)) hp x hpx]
    · rw [f2 x fun j p _ hp hpx => hex ⟨j, p, hp, hpx⟩, iv.b x fun j p _ hp hpx => hex ⟨j, p, hp, hpx⟩]
  obtain ⟨m, hm, hml, c1, c2⟩ := iv.c
  rw [stp_like hlike] at hs
  -- the frame
  have fa : ∀ (j : Nat) p, (S j ∨ j = i) → all[j]? = some p → ∀ x, p.dst = some x → getV x (putV A.nt o.dst (V i) fr) = put1 A.nt x (V j) := by
    intro j p hj hp x hpx
    rw [getV_put]
    rcases hj with hj | rfl
    · have hji : j ≠ i := fun e => hi (e ▸ hj)
      rw [if_neg]
      · exact iv.a j p hj hp x hpx
      · intro hox
        rcases Nat.lt_or_gt_of_ne hji with hlt | hlt
        · exact ck.dst j i p o hp ho hlt x hpx hox
        · exact ck.dst i j o p ho hp hlt x hox hpx
    · rw [ho] at hp; cases hp; rw [if_pos hpx]
  have fb : ∀ x, (∀ (j : Nat) p, (S j ∨ j = i) → all[j]? = some p → p.dst ≠ some x) → getV x (putV A.nt o.dst (V i) fr) = getV x fr0 := by
    intro x hx
    rw [getV_put, if_neg (hx i o (.inr rfl) ho)]
    exact iv.b x fun j p hj hp => hx j p (.inl hj) hp
  -- writers behind i that are listed are makers, and it is no writer
  have before : ∀ (j : Nat) p, m ≤ j → j < i → all[j]? = some p → clsOf A r i o.op ≠ 0 → ¬ wr (clsOf A r j p.op) := by
    intro j p hmj hji hp hc0 hw
    have hnS : ¬ S j := fun hS => by have := c1 j p hS hp hw; omega
    rcases ck.cls j i p o hp ho hji with hb | hb
    · exact hnS (closed' j hb (by omega))
    · by_cases hwi : wr (clsOf A r i o.op)
      · rw [clsOk_wr hw hwi] at hb; cases hb
      · rcases not_wr hwi with h | h
        · exact hc0 h
        · rw [h, clsOk_left hw] at hb; cases hb
  by_cases hwi : wr (clsOf A r i o.op)
  · -- a writer
    have hmi : m ≤ i := by
      rcases Nat.lt_or_ge i m with h | h
      · exact absurd (c2 i o h ho hwi) hi
      · exact h
    have hc0 : clsOf A r i o.op ≠ 0 := by unfold wr at hwi; omega
    have e := t.between hq m i hmi (by omega) fun j p a b hp => before j p a b hp hc0
    rw [e, ← hm] at hs
    refine ⟨_, hs, dir', fa, fb, i + 1, rfl, by omega, ?_, ?_⟩
    · intro j p hj hp hw
      rcases hj with hj | rfl
      · have := c1 j p hj hp hw; omega
      · omega
    · intro j p hj hp hw
      by_cases hji : j = i
      · exact .inr hji
      · refine .inl ?_
        rcases Nat.lt_or_ge j m with h | h
        · exact c2 j p h hp hw
        · exact absurd hw (before j p h (by omega) hp hc0)
  · have cc : ∀ h', h' = h → Inv A r all fr0 V Hp (fun j => S j ∨ j = i) (putV A.nt o.dst (V i) fr) h' := by
      rintro h' rfl
      refine ⟨dir', fa, fb, m, hm, hml, ?_, ?_⟩
      · intro j p hj hp hw
        rcases hj with hj | rfl
        · exact c1 j p hj hp hw
        · rw [ho] at hp; cases hp; exact absurd hw hwi
      · intro j p hj hp hw
        exact .inl (c2 j p hj hp hw)
    rcases not_wr hwi with hc | hc
    · exact ⟨h, (stp_still hc hs).2 h, cc h rfl⟩
    · have hc0 : clsOf A r i o.op ≠ 0 := by omega
      have hg : ∃ l, h = Hp i ++ l := by
        rcases Nat.lt_or_ge i m with hmi | hmi
        · have hnew : ∀ (j : Nat) (p : Oper), i ≤ j → j < m → all[j]? = some p → wr (clsOf A r j p.op) → clsOf A r j p.op = 2 := by
            intro j p hij hjm hp hw
            have hSj := c2 j p hjm hp hw
            have hne : j ≠ i := fun e => hi (e ▸ hSj)
            rcases ck.cls i j o p ho hp (by omega) with hb | hb
            · exact absurd (closed j hSj i hb) hi
            · rw [hc] at hb
              exact clsOk_right hw hb
          obtain ⟨l, hl⟩ := t.grows hq i m (by omega) hml hnew
          exact ⟨l, by rw [hm, hl]⟩
        · have e := t.between hq m i hmi (by omega) fun j p a b hp => before j p a b hp hc0
          exact ⟨[], by rw [hm, e, List.append_nil]⟩
      obtain ⟨l, hl⟩ := hg
      have := (stp_reader hq hc hs).2 l
      rw [← hl] at this
      exact ⟨h, this, cc h rfl⟩

def orderedL (all : List Oper) (l : List Nat) : List (Nat × Oper) := l.filterMap fun i => (all[i]?).map fun o => (i, o)

theorem valid_run (ck : Chk A r all) (hq : ∀ f ∈ A.q, Still call f) (t : Trace P A call r all ob 0 all fr0 h0 fr1 h1 V Hp Fr) : ∀ (l : List Nat) (S : Nat → Prop) (fr : List (Nat × AV)) (h : H), Valid all l S → Inv A r all fr0 V Hp S fr h →
    ∃ fr2, regionQ P A call r all ob (fun fr h => some (fr, h)) (orderedL all l) fr h = some (fr2, h1) ∧ ∀ x, getV x fr2 = getV x fr1
  | [], S, fr, h, hv, iv => by
    obtain ⟨f1, f2⟩ := t.frames ck all.length (Nat.le_refl _)
    have e1 := t.fn
    have e2 := t.hn
    simp only [Nat.zero_add] at e1 e2
    rw [e1] at f1 f2
    obtain ⟨m, hm, hml, c1, c2⟩ := iv.c
    have hall : ∀ (j : Nat) o, all[j]? = some o → S j := fun j o ho => hv j (List.getElem?_eq_some_iff.1 ho).1
    have hh : h = h1 := by
      rw [hm, ← e2]
      exact (t.between hq m all.length hml (Nat.le_refl _) fun j o a b ho hw => by have := c1 j o (hall j o ho) ho hw; omega).symm
    subst hh
    refine ⟨fr, rfl, fun x => ?_⟩
    by_cases hex : ∃ (j : Nat) (p : Oper), all[j]? = some p ∧ p.dst = some x
    · obtain ⟨j, p, hp, hpx⟩ := hex
      rw [iv.a j p (hall j p hp) hp x hpx, f1 j p (List.getElem?_eq_some_iff.1 hp).1 hp x hpx]
    · rw [iv.b x fun j p _ hp hpx => hex ⟨j, p, hp, hpx⟩, f2 x fun j p _ hp hpx => hex ⟨j, p, hp, hpx⟩]
  | i :: l, S, fr, h, hv, iv => by
    obtain ⟨hi, ⟨o, ho, hd⟩, hv⟩ := hv
    obtain ⟨h', hs, iv'⟩ := iv.step ck hq t ho hi hd
    obtain ⟨fr2, e, hg⟩ := valid_run ck hq t l _ _ _ hv iv'
    refine ⟨fr2, ?_, hg⟩
    simp only [orderedL, List.filterMap_cons, ho, Option.map_some, regionQ]
    rw [stepQ_eq, hs]
    exact e

/-- In whatever order. -/
theorem order_free (hck : drawChk A r all = true) (hq : ∀ f ∈ A.q, Still call f) (he : regionQ P A call r all ob (fun fr h => some (fr, h)) (enum 0 all) fr0 h0 = some (fr1, h1)) {l : List Nat} (hv : Valid all l fun _ => False) :
    ∃ fr2, regionQ P A call r all ob (fun fr h => some (fr, h)) (orderedL all l) fr0 h0 = some (fr2, h1) ∧ ∀ x, getV x fr2 = getV x fr1 := by
  obtain ⟨V, Hp, Fr, t⟩ := trace_of all 0 fr0 h0 fr1 h1 he
  have hh := t.h0
  exact valid_run (chk_of hck) hq t l _ fr0 h0 hv ⟨fun _ _ h => h.elim, fun _ _ h => h.elim, fun _ _ => rfl, 0, hh.symm, Nat.zero_le _, fun _ _ h => h.elim, fun _ _ h => absurd h (by omega)⟩
end
end
end Go.Ve

/- VE: regions whose order is drawn: in the machine. -/
namespace Go.Ve
open Go

/-! ### the orders that are drawn -/
theorem filter_less {p p' : Nat → Bool} {i : Nat} (hpp : ∀ x, p' x = true → p x = true) (hi : p i = true) (hi' : p' i = false) : ∀ l : List Nat, i ∈ l → (l.filter p').length < (l.filter p).length := by
  have le : ∀ l : List Nat, (l.filter p').length ≤ (l.filter p).length := by
    intro l
    induction l with
    | nil => simp
    | cons x l ih =>
      simp only [List.filter_cons]
      cases h1 : p' x with
      | true => simp [hpp x h1]; exact ih
      | false => cases p x <;> simp <;> omega
  intro l
  induction l with
  | nil => intro h; simp at h
  | cons x l ih =>
    intro h
    simp only [List.filter_cons]
    by_cases hx : x = i
    · subst hx
      have := le l
      simp [hi, hi']; omega
    · have hm : i ∈ l := by simpa [Ne.symm hx] using h
      have := ih hm
      cases h1 : p' x with
      | true => simp [hpp x h1]; exact this
      | false => cases p x <;> simp <;> omega

theorem Valid.mono_eq {all : List Oper} {l : List Nat} {S S' : Nat → Prop} (h : ∀ i, S i ↔ S' i) (hv : Valid all l S) : Valid all l S' := by
  have : S = S' := funext fun i => propext (h i)
  rwa [← this]

theorem go_valid {ops : Array Oper} (hed : ∀ (i : Nat) o, ops.toList[i]? = some o → ∀ j ∈ directs o, j < i) : ∀ (fuel t : Nat) (listed : Array Bool), listed.size = ops.size →
    ((List.range ops.size).filter fun i => !listed.getD i true).length ≤ fuel → Valid ops.toList (Region.linearise.go .any ops fuel t listed []) fun j => listed.getD j false = true := by
  have fin : ∀ (listed : Array Bool), listed.size = ops.size → (∀ i, i ∉ (List.range ops.size).filter fun i => !listed.getD i true && ((ops[i]?).map (·.after.all fun e => !Region.binds .any e || listed.getD e.on false)).getD false) → ∀ i, i < ops.toList.length → listed.getD i false = true := by
    intro listed hsz hnone i
    induction i using Nat.strongRecOn with
    | ind i ih =>
      intro hi
      rw [Array.length_toList] at hi
      cases hl : listed.getD i false with
      | true => rfl
      | false =>
        refine absurd ?_ (hnone i)
        rw [List.mem_filter, List.mem_range]
        refine ⟨hi, ?_⟩
        have hl2 : listed.getD i true = false := by
          simp [hsz, hi] at hl ⊢
          exact hl
        rw [hl2]
        simp only [Bool.not_false, Bool.true_and, Array.getElem?_eq_getElem hi, Option.map_some, Option.getD_some]
        rw [Array.all_eq_true_iff_forall_mem]
        intro e he
        cases hb : Region.binds .any e with
        | false => simp
        | true =>
          have hlt := hed i ops[i] (by simp [hi]) e.on (List.mem_map.2 ⟨e, List.mem_filter.2 ⟨by simpa using he, hb⟩, rfl⟩)
          simp [ih e.on hlt (by rw [Array.length_toList]; omega)]
  intro fuel
  induction fuel with
  | zero =>
    intro t listed hsz hle
    simp only [Region.linearise.go, List.reverse_nil]
    refine fin listed hsz fun i hi => ?_
    rw [List.mem_filter] at hi
    have hm : i ∈ (List.range ops.size).filter fun i => !listed.getD i true := by
      rw [List.mem_filter]
      exact ⟨hi.1, by have := hi.2; simp only [Bool.and_eq_true] at this; exact this.1⟩
    have : (List.range ops.size).filter (fun i => !listed.getD i true) = [] := List.length_eq_zero_iff.1 (by omega)
    rw [this] at hm
    cases hm
  | succ fuel ih =>
    intro t listed hsz hle
    simp only [Region.linearise.go]
    generalize hrs : ((List.range ops.size).filter fun i => !listed.getD i true && ((ops[i]?).map (·.after.all fun e => !Region.binds .any e || listed.getD e.on false)).getD false) = rs
    cases hi : rs[t % rs.length]? with
    | none =>
      have hnil : rs = [] := by
        cases rs with
        | nil => rfl
        | cons x xs =>
          have hlt : t % (x :: xs).length < (x :: xs).length := Nat.mod_lt _ (by simp)
          rw [List.getElem?_eq_none_iff] at hi
          omega
      simp only [List.reverse_nil]
      refine fin listed hsz fun i => ?_
      rw [hrs, hnil]; simp
    | some i =>
      simp only []
      rw [linearise_go_acc, List.reverse_singleton, List.singleton_append]
      have hm := List.mem_of_getElem? hi
      rw [← hrs, List.mem_filter, List.mem_range] at hm
      obtain ⟨hin, hm⟩ := hm
      simp only [Bool.and_eq_true, Bool.not_eq_true', Array.getElem?_eq_getElem hin, Option.map_some, Option.getD_some, Array.all_eq_true_iff_forall_mem] at hm
      have hunl : listed.getD i false = false := by
        have := hm.1
        simp [hsz, hin] at this ⊢
        exact this
      refine ⟨by simp [hunl], ⟨ops[i], by simp [hin], ?_⟩, ?_⟩
      · intro j hj
        unfold directs at hj
        rw [List.mem_map] at hj
        obtain ⟨e, he, rfl⟩ := hj
        rw [List.mem_filter] at he
        have h2 := hm.2 e (by simpa using he.1)
        simpa [he.2] using h2
      · refine Valid.mono_eq (fun j => ?_) (ih (t / rs.length) (listed.setIfInBounds i true) (by simp [hsz]) ?_)
        · by_cases hji : j = i
          · subst hji
            simp [hsz, hin]
          · simp [Ne.symm hji, hji]
        · have := filter_less (p := fun j => !listed.getD j true) (p' := fun j => !(listed.setIfInBounds i true).getD j true) (i := i) ?_ (by simp [hm.1]) (by simp [hsz, hin]) (List.range ops.size) (by simpa using hin)
          · omega
          · intro x hx
            by_cases hxi : x = i
            · subst hxi; simp [hsz, hin] at hx
            · simp [Ne.symm hxi] at hx ⊢
              exact hx

theorem schedule_valid {ops : Array Oper} {mixed : Bool} (hmix : mixed = true) (hed : ∀ (i : Nat) o, ops.toList[i]? = some o → ∀ j ∈ directs o, j < i) (t : Nat) : Valid ops.toList (Region.schedule mixed ops t) fun _ => False := by
  have lin : ∀ t, Valid ops.toList (Region.linearise .any ops t) fun _ => False := by
    intro t
    refine Valid.mono_eq (fun i => ?_) (go_valid hed ops.size t (Array.replicate ops.size false) (by simp) ?_)
    · simp only [Array.getD_eq_getD_getElem?, Array.getElem?_replicate]
      split <;> simp
    · exact Nat.le_trans (List.length_filter_le _ _) (by simp)
  unfold Region.schedule
  simp only [hmix, Bool.true_or, if_true]
  exact lin t

section
variable {P : Program} {w : World} {g : Gh} {h : H} {fr : List (Nat × AV)} {ob : List (Nat × Nat)} {a : Act}

theorem getM_zeros : ∀ (l : List Oper) (o : Oper) (t : Nat), o ∈ l → (o.dst = some t ∨ ∃ j, o.op = .extract (.tmp t) j) → getM t (zeros l ob) = 0
  | [], _, _, h, _ => by simp at h
  | p :: l, o, t, h, ht => by
    have skip : ∀ (x : List (Nat × Nat)) (y : List (Nat × Nat)), (∀ q ∈ x, q.2 = 0) → getM t y = 0 → getM t (x ++ y) = 0 := by
      intro x y hx hy
      induction x with
      | nil => exact hy
      | cons q x ih =>
        simp only [List.cons_append, getM]
        cases Nat.beq q.1 t with
        | true => exact hx q (by simp)
        | false => exact ih fun q hq => hx q (by simp [hq])
    have hit : ∀ (x : List (Nat × Nat)) (y : List (Nat × Nat)), (t, 0) ∈ x → (∀ q ∈ x, q.2 = 0) → getM t (x ++ y) = 0 := by
      intro x y hm hx
      induction x with
      | nil => cases hm
      | cons q x ih =>
        simp only [List.cons_append, getM]
        cases hb : Nat.beq q.1 t with
        | true => exact hx q (by simp)
        | false =>
          refine ih ?_ fun q hq => hx q (by simp [hq])
          rcases List.mem_cons.1 hm with h | h
          · subst h; simp at hb
          · exact h
    have z1 : ∀ q ∈ (match p.dst with | some d => [(d, 0)] | none => ([] : List (Nat × Nat))), q.2 = 0 := by
      intro q hq; split at hq <;> simp at hq; subst hq; rfl
    have z2 : ∀ q ∈ (match p.op with | .extract (.tmp t) _ => [(t, 0)] | _ => ([] : List (Nat × Nat))), q.2 = 0 := by
      intro q hq; split at hq <;> simp at hq; subst hq; rfl
    unfold zeros
    rcases List.mem_cons.1 h with rfl | h
    · rw [List.append_assoc]
      rcases ht with ht | ⟨j, ht⟩
      · exact hit _ _ (by rw [ht]; simp) z1
      · exact skip _ _ z1 (hit _ _ (by rw [ht]; simp) z2)
    · rw [List.append_assoc]
      exact skip _ _ z1 (skip _ _ z2 (getM_zeros l o t h ht))
theorem getM_zeros_le : ∀ (l : List Oper) (t p : Nat), (getM t (zeros l ob)).testBit p = true → (getM t ob).testBit p = true
  | [], _, _, h => h
  | o :: l, t, p, h => by
    have key : ∀ (x : List (Nat × Nat)) (y : List (Nat × Nat)), (∀ q ∈ x, q.2 = 0) → (getM t (x ++ y)).testBit p = true → (getM t y).testBit p = true := by
      intro x y hx hy
      induction x with
      | nil => exact hy
      | cons q x ih =>
        simp only [List.cons_append, getM] at hy
        cases hb : Nat.beq q.1 t with
        | true => rw [hb] at hy; simp only [cond_true] at hy; rw [hx q (by simp)] at hy; simp at hy
        | false => rw [hb] at hy; exact ih (fun q hq => hx q (by simp [hq])) hy
    unfold zeros at h
    rw [List.append_assoc] at h
    refine getM_zeros_le l t p (key _ _ ?_ (key _ _ ?_ h))
    · intro q hq; split at hq <;> simp at hq; subst hq; rfl
    · intro q hq; split at hq <;> simp at hq; subst hq; rfl

/-- The region's operations in any order that is told, nothing taken. -/
theorem regionQ_sound {call : Cl} (hcall : CallOk P call) {A : FAnn} (hmv : A.mv = []) {r : Nat} {ops : Array Oper} {nt : Nat} (hnt : nt = A.nt) {fr2 : List (Nat × AV)} {h2 : H} {w0 : World} {g0 : Gh} {Q : Exit → Act → World → Prop}
    (hsm : ∀ o ∈ ops.toList, ∀ t ∈ opTmps o.op, t < A.nv)
    (hfin : ∀ a w g, FR w g fr2 (zeros ops.toList ob) a.tmps → HR w g h2 → A.nt ≤ a.tmps.size → a.defers = [] → Ev w0 g0 w g → Q .normal a w) : ∀ (l : List Nat) (fr : List (Nat × AV)) (h : H) (a : Act) (w : World) (g : Gh),
    regionQ P A call r ops.toList (zeros ops.toList ob) (fun fr h => some (fr, h)) (orderedL ops.toList l) fr h = some (fr2, h2) → FR w g fr (zeros ops.toList ob) a.tmps → HR w g h → A.nt ≤ a.tmps.size → a.defers = [] → Ev w0 g0 w g → wpOps P ops Q l a w
  | [], fr, h, a, w, g, he, hF, hH, hn, hd, ev => by
    cases he
    exact hfin a w g hF hH hn hd ev
  | i :: l, fr, h, a, w, g, he, hF, hH, hn, hd, ev => by
    unfold wpOps
    cases hio : ops[i]? with
    | none =>
      simp only [orderedL, List.filterMap_cons, Array.getElem?_toList, hio, Option.map_none] at he
      exact regionQ_sound hcall hmv hnt hsm hfin l fr h a w g (by simpa only [orderedL, Array.getElem?_toList] using he) hF hH hn hd ev
    | some o =>
      simp only [orderedL, List.filterMap_cons, Array.getElem?_toList, hio, Option.map_some, regionQ] at he
      rw [stepQ_eq, Option.bind_eq_some_iff] at he
      obtain ⟨⟨v, h'⟩, hs, he⟩ := he
      simp only at he
      have he : regionQ P A call r ops.toList (zeros ops.toList ob) (fun fr h => some (fr, h)) (orderedL ops.toList l) (putV A.nt o.dst v fr) h' = some (fr2, h2) := by simpa only [orderedL, Array.getElem?_toList] using he
      have hmem : o ∈ ops.toList := by simpa using Array.mem_of_getElem? hio
      have takes : ∀ x : Operand, x ∈ o.op.operands → ∀ t, x = .tmp t → A.takes r i t = false := by
        intro x hx t ht
        have := hsm o hmem t (List.mem_filterMap.2 ⟨x, by simpa using hx, by rw [ht]⟩)
        have hb : Nat.ble A.nv t = false := by
          cases hb : Nat.ble A.nv t with
          | false => rfl
          | true => have := Nat.le_of_ble_eq_true hb; omega
        simp [FAnn.takes, hb, hmv]
      have off : ∀ t p, (getM t (zeros ops.toList ob)).testBit p = true → (getM t (offOf A r i (zeros ops.toList ob) o.op)).testBit p = true := by
        intro t p hb
        have key : ∀ x ∈ o.op.operands, (getM t (obOff A r i (zeros ops.toList ob) x)).testBit p = true := by
          intro x hx
          cases x with
          | tmp t' => simp only [obOff, takes _ hx t' rfl, cond_false]; exact hb
          | _ => exact hb
        unfold offOf
        split
        · rename_i ho; exact key _ (by rw [ho]; simp [Op.operands])
        · rename_i ho; exact key _ (by rw [ho]; simp [Op.operands])
        · rename_i ho; exact key _ (by rw [ho]; simp [Op.operands])
        · rename_i ho; exact key _ (by rw [ho]; simp [Op.operands])
        · rename_i args _ ho
          split
          · rename_i x xs hx
            refine key _ (by rw [ho]; have : x ∈ args.toList := by rw [hx]; simp
                             simpa [Op.operands, Call.operands] using this)
          · exact hb
        · rename_i t' j ho
          have hz := getM_zeros (ob := ob) ops.toList o t' hmem (.inr ⟨j, ho⟩)
          simp only [strict_eq, getM]
          cases hb2 : Nat.beq t' t with
          | false => exact hb
          | true =>
            have := Nat.eq_of_beq_eq_true hb2
            subst this
            rw [hz] at hb
            simp at hb
        · exact hb
      have weak : ∀ {m : Nat} {fr' : List (Nat × AV)} {w' : World} {g' : Gh} {tmps : Array Value} {ob' : List (Nat × Nat)}, (∀ t p, (getM t (zeros ops.toList ob)).testBit p = true → (getM t ob').testBit p = true) → FR w' g' fr' (putM o.dst m ob') tmps → FR w' g' fr' (zeros ops.toList ob) tmps := by
        intro m fr' w' g' tmps ob' hob hf
        refine hf.mono (.refl w' g') fun t p _ hb => ⟨?_, fun _ hb => ⟨hb, rfl, fun _ h => h⟩⟩
        cases hdst : o.dst with
        | none => exact hob t p hb
        | some d =>
          simp only [putM, getM]
          cases hb2 : Nat.beq d t with
          | false => exact hob t p hb
          | true =>
            have := Nat.eq_of_beq_eq_true hb2
            subst this
            rw [getM_zeros (ob := ob) ops.toList o d hmem (.inl hdst)] at hb
            simp at hb
      have skip : h' = h → v = .tuple [] → wpOps P ops Q l (a.put o.dst undef) w := by
        rintro rfl rfl
        exact regionQ_sound hcall hmv hnt hsm hfin l _ _ _ w g he (weak (m := 0) (fun _ _ h => h) (hF.put hn undef_rep)) hH (by rw [put_size]; exact hn) (by rw [put_defers]; exact hd) ev
      have done : ∀ {m : Nat}, OpOk P a o fr (offOf A r i (zeros ops.toList ob) o.op) m v h' w g → o.wp P a w (wpOps P ops Q l) Q := by
        intro m hk
        exact wp_opOk hk hn fun a' w' g' f1 f2 f3 f4 f5 => regionQ_sound hcall hmv hnt hsm hfin l _ _ a' w' g' he (weak off f1) f2 f4 (by rw [f5]; exact hd) (ev.trans f3)
      have split2 : ∀ {want : Bool}, Region.wanted o (yielded ops a.tmps) = want → (want = true → o.wp P a w (wpOps P ops Q l) Q) → (want = false → wpOps P ops Q l (a.put o.dst undef) w) →
          (if Region.wanted o (yielded ops a.tmps) = true then o.wp P a w (wpOps P ops Q l) Q ∨ (o.asks P a w ∧ LetsOut Q) else wpOps P ops Q l (a.put o.dst undef) w) := by
        intro want hw h1 h2
        rw [hw]
        cases want with
        | true => rw [if_pos rfl]; exact .inl (h1 rfl)
        | false => rw [if_neg (by simp)]; exact h2 rfl
      simp only
      unfold stp stepQ at hs
      split at hs
      · rename_i hk
        split at hs
        · rename_i v' hg hv
          cases hs
          exact split2 (want := true) (by simp [Region.wanted, hg]) (fun _ => done (op_tot hH hF hv)) (by simp)
        · simp only [Option.bind_eq_some_iff] at hs
          obtain ⟨v', hv, hs⟩ := hs
          cases hs
          rcases gated_cases hv hF with ⟨hw, hx⟩ | ⟨hw, rfl⟩
          · exact split2 hw (fun _ => done (op_tot hH hF hx)) (by simp)
          · exact split2 hw (by simp) (fun _ => skip rfl rfl)
        · cases hs
      · rename_i hk
        split at hs
        · rename_i p hg hp
          cases hs
          exact split2 (want := true) (by simp [Region.wanted, hg]) (fun _ => done (op_new hH hF hp)) (by simp)
        · simp only [Option.bind_eq_some_iff] at hs
          obtain ⟨p, hp, hs⟩ := hs
          cases hs
          rcases gated_cases hp hF with ⟨hw, hx⟩ | ⟨hw, hy⟩
          · exact split2 hw (fun _ => done (op_new hH hF hx)) (by simp)
          · exact split2 hw (by simp) (fun _ => skip (by rw [hy]) (by rw [hy]))
        · cases hs
      · rename_i hk
        simp only [Option.bind_eq_some_iff] at hs
        obtain ⟨v', hv, hs⟩ := hs
        cases hs
        rcases gated_cases hv hF with ⟨hw, hx⟩ | ⟨hw, rfl⟩
        · exact split2 hw (fun _ => done (op_val hH hF hk hx)) (by simp)
        · exact split2 hw (by simp) (fun _ => skip rfl rfl)
      · rename_i hk
        simp only [Option.bind_eq_some_iff] at hs
        obtain ⟨p, hp, hs⟩ := hs
        cases hs
        rcases gated_cases hp hF with ⟨hw, hx⟩ | ⟨hw, hy⟩
        · exact split2 hw (fun _ => done (op_heap hH hF hk hx)) (by simp)
        · exact split2 hw (by simp) (fun _ => skip (by rw [hy]) (by rw [hy]))
      · rename_i f args hk
        simp only [Option.bind_eq_some_iff] at hs
        obtain ⟨p, hp, hs⟩ := hs
        obtain ⟨c, ho, hc, hca⟩ := call_of hk
        obtain ⟨e, ph⟩ := p
        cases e with
        | pan x => cases hs
        | ret x =>
          cases hs
          rcases gated_cases hp hF with ⟨hw, hx⟩ | ⟨hw, hy⟩
          · refine split2 hw (fun _ => ?_) (by simp)
            rw [← hca] at hx
            refine wp_call hcall hH hF ho hc hx hn (fun a' w' g' v' e1 f1 f2 f3 f4 f5 => ?_) (fun w' g' v' u e1 => by cases e1)
            cases e1
            exact regionQ_sound hcall hmv hnt hsm hfin l _ _ a' w' g' he (weak (fun _ _ h => h) f1) f2 f4 (by rw [f5]; exact hd) (ev.trans f3)
          · refine split2 hw (by simp) (fun _ => ?_)
            cases hy
            exact skip rfl rfl
      · cases hs

end
end Go.Ve

/- VE: code. -/
namespace Go.Ve
open Go

theorem getV_keep (fr : List (Nat × AV)) (t : Nat) : ∀ l : List (Nat × Nat), getV t (keepFr fr l) = getV t fr ∨ getV t (keepFr fr l) = .undef
  | [] => .inr rfl
  | p :: l => by
    simp only [keepFr, getV]
    cases hb : Nat.beq p.1 t with
    | true =>
      have := Nat.eq_of_beq_eq_true hb
      subst this
      exact .inl rfl
    | false => exact getV_keep fr t l
theorem getM_keep (ob : List (Nat × Nat)) (t p : Nat) : ∀ l : List (Nat × Nat), (getM t (keepOb ob l)).testBit p = true → (getM t ob).testBit p = true
  | [], h => by simp [keepOb, getM] at h
  | q :: l, h => by
    simp only [keepOb, strict_eq, getM] at h
    cases hb : Nat.beq q.1 t with
    | true =>
      rw [hb] at h
      have := Nat.eq_of_beq_eq_true hb
      subst this
      simp only [cond_true] at h
      have h' : (getM q.1 ob &&& q.2).testBit p = true := h
      rw [Nat.testBit_and] at h'
      simp at h'
      exact h'.1
    | false =>
      rw [hb] at h
      exact getM_keep ob t p l h

section
variable {P : Program} {w : World} {g : Gh} {h : H}

theorem FR.keep {fr : List (Nat × AV)} {ob : List (Nat × Nat)} {tmps : Array Value} (hF : FR w g fr ob tmps) (l l' : List (Nat × Nat)) : FR w g (keepFr fr l) (keepOb ob l') tmps := by
  intro t
  have h1 := hF.mono (ob' := keepOb ob l') (.refl w g) (fun t p c hb => ⟨getM_keep ob t p l' hb, fun _ hb => ⟨hb, rfl, fun _ h => h⟩⟩) t
  rcases getV_keep fr t l with e | e
  · rw [e]; exact h1
  · rw [e]; exact .undef

theorem M.enter {nt : Nat} {s : St} {a : Act} (m : M nt s a w g) (an : Ann) : M nt (an.enter s) a w g := by
  unfold Ann.enter
  split
  · exact ⟨m.fr.keep _ _, m.hr, m.size, m.df, m.ds⟩
  · exact m

theorem drew_ev (w : World) (g : Gh) (n : Nat) : Ev w g { w with drawn := n } g := ⟨Nat.le_refl _, fun _ _ h => ⟨h, rfl⟩, fun _ _ h => h, fun _ _ h => ⟨h, rfl, fun _ h => h⟩, rfl, rfl⟩
theorem HR.drew (hH : HR w g h) (n : Nat) : HR { w with drawn := n } g h :=
  ⟨fun id o hid => (hH.obj id o hid).mono (drew_ev w g n).mono (fun _ _ => ⟨rfl, fun _ h => h⟩) (fun _ _ hb => ⟨hb, rfl, fun _ h => h⟩), hH.inj, hH.lt, hH.bd, hH.stlt⟩

def ordered (ops : Array Oper) (l : List Nat) : List (Nat × Oper) := l.filterMap fun i => (ops[i]?).map fun o => (i, o)

theorem enum_range (ops : Array Oper) : ordered ops (List.range ops.size) = enum 0 ops.toList := by
  have key : ∀ (l : List Oper) (n : Nat) (all : Array Oper), (∀ j, j < l.length → all[n + j]? = l[j]?) → ((List.range' n l.length).filterMap fun i => (all[i]?).map fun o => (i, o)) = enum n l := by
    intro l
    induction l with
    | nil => intros; rfl
    | cons o l ih =>
      intro n all h
      have h0 := h 0 (by simp)
      simp only [Nat.add_zero, List.getElem?_cons_zero] at h0
      rw [List.length_cons, List.range'_succ, List.filterMap_cons, h0]
      simp only [Option.map_some, enum]
      rw [ih (n + 1) all (fun j hj => by
        have := h (j + 1) (by simp; omega)
        rw [show n + 1 + j = n + (j + 1) by omega, this]; simp)]
  have := key ops.toList 0 ops (fun j _ => by simp)
  rw [Array.length_toList] at this
  unfold ordered
  rw [List.range_eq_range']
  exact this

/-- A loop, as many rounds as it takes. -/
theorem wp_rounds {c : Code} {Q : Exit → Act → World → Prop} (I : Nat → Act → World → Prop) (hI : ∀ a w, ¬ I 0 a w) (round : ∀ n a w, I (n + 1) a w → c.wp P (Exit.then (I n) Q) a w) {n : Nat} {a : Act} {w : World} (h0 : I n a w) : (Code.loop c).wp P Q a w := by
  intro b k cs
  have key : ∀ n a w, I n a w → ∃ e a' w', Q e a' w' ∧ Arrives P (lone (b.at a (.code c :: .inLoop c :: k)) cs w) b k cs e a' w' := by
    intro n
    induction n with
    | zero => intro a w h; exact absurd h (hI a w)
    | succ n ih =>
      intro a w h
      obtain ⟨e, a₁, w₁, hq, harr⟩ := round n a w h b (.inLoop c :: k) cs
      cases e with
      | normal =>
        obtain ⟨e₂, a₂, w₂, hq₂, harr₂⟩ := ih a₁ w₁ hq
        exact ⟨e₂, a₂, w₂, hq₂, .of_steps (Steps.trans harr (.one step_inLoop)) harr₂⟩
      | exit id => exact ⟨_, a₁, w₁, hq, .pass (x := .inLoop c) rfl (fun _ _ => .inl (by simp)) harr⟩
      | goto l => exact ⟨_, a₁, w₁, hq, .pass (x := .inLoop c) rfl (fun _ _ => .inl (by simp)) harr⟩
      | ret => exact ⟨_, a₁, w₁, hq, .pass (x := .inLoop c) rfl (fun _ _ => .inl (by simp)) harr⟩
      | panic ch => exact ⟨_, a₁, w₁, hq, .pass (x := .inLoop c) rfl (fun _ _ => .inl (by simp)) harr⟩
      | outgrown => exact ⟨_, a₁, w₁, hq, .pass (x := .inLoop c) rfl (fun _ _ => .inl (by simp)) harr⟩
  obtain ⟨e, a', w', hq, harr⟩ := key n a w h0
  exact ⟨e, a', w', hq, .of_steps (.one step_loop) harr⟩

theorem exec_sound {R : Type} {call : Cl} (hcall : CallOk P call) {A : FAnn} (hmix : P.follows .mixedOrders = true) (hq : ∀ f ∈ A.q, Still call f) {n : Nat} {res : R} : ∀ (c : Code) (an : Ann) (k : K R) (s : St) (a : Act) (w : World) (g : Gh) (w0 : World) (g0 : Gh),
    exec P A call n c an k s = some res → M A.nt s a w g → Ev w0 g0 w g → c.wp P (Post k res A.nt w0 g0) a w := by
  intro c
  induction c with
  | skip => intro an k s a w g w0 g0 he m ev; exact wp_skip ⟨s, g, m, ev, he⟩
  | label l => intro an k s a w g w0 g0 he m ev; exact wp_label ⟨s, g, m, ev, he⟩
  | exit id => intro an k s a w g w0 g0 he m ev; exact wp_exit ⟨s, g, m, ev, he⟩
  | ret => intro an k s a w g w0 g0 he m ev; exact wp_ret ⟨s, g, m, ev, he⟩
  | goto l => intro an k s a w g w0 g0 he m ev; simp [exec, execG] at he
  | refuse l => intro an k s a w g w0 g0 he m ev; simp [exec, execG] at he
  | rangeFunc f ps x y => intro an k s a w g w0 g0 he m ev; simp [exec, execG] at he
  | region r ops draw =>
    intro an k s a w g w0 g0 he m ev
    obtain ⟨fr, ob, ds, h⟩ := s
    obtain ⟨m1, m2, m3, m4, m5⟩ := m
    simp only at m1 m2 m5
    subst m5
    cases draw with
    | false =>
      simp only [exec, execG, rgOf, rqOf] at he
      have he := regionC_plain _ _ _ _ _ he
      refine wp_region (region_sound (r := r) hcall (List.range ops.size) fr ob h a w g w0 g0 ?_ m1 m2 m3 m4 ev)
      have := enum_range ops
      unfold ordered at this
      rw [this]
      exact he
    | true =>
      simp only [exec, execG, rgOf, rqOf] at he
      cases hck : drawChk A.quiet r ops.toList with
      | false => rw [hck] at he; simp at he
      | true =>
        rw [hck] at he
        simp only [cond_true] at he
        have he := regionQC_plain _ _ _ he
        rw [regionQ_eq, Option.bind_eq_some_iff] at he
        obtain ⟨⟨fr1, h1⟩, hrun, hk⟩ := he
        refine wp_region_draw fun t => ?_
        have e2 := drew_ev w g (w.drawn + 1)
        have hck' := chk_of hck
        obtain ⟨fr2, hrun2, hsame⟩ := order_free (A := A.quiet) hck hq hrun (schedule_valid hmix hck'.edges t)
        refine regionQ_sound (nt := A.nt) hcall (A := A.quiet) rfl rfl (fun o ho t ht => by
          obtain ⟨i, hi⟩ := List.getElem?_of_mem ho
          exact hck'.small i o hi t ht) (fun a' w' g' f1 f2 f3 f4 f5 => ?_) _ fr h a _ g hrun2 ?_ (m2.drew _) m3 m4 (ev.trans e2)
        · refine ⟨⟨fr1, zeros ops.toList ob, [], h1⟩, g', ⟨fun x => ?_, f2, f3, f4, rfl⟩, f5, hk⟩
          have := f1 x
          rw [hsame x] at this
          exact this
        · exact m1.mono e2.mono fun t p _ hb => ⟨getM_zeros_le _ t p hb, fun _ hb => ⟨hb, rfl, fun _ h => h⟩⟩
  | seq x y ihx ihy =>
    intro an k s a w g w0 g0 he m ev
    simp only [exec, execG, rgOf, rqOf] at he
    refine wp_seq (wp_mono (ihx _ _ _ a w g w0 g0 he (m.enter _) ev) ?_)
    intro e a' w' hp
    cases e with
    | normal =>
      obtain ⟨s', g', m', ev', hk⟩ := hp
      exact ihy _ _ _ a' w' g' w0 g0 hk (m'.enter _) ev'
    | exit id => exact hp
    | ret => exact hp
    | panic ch => exact hp
    | goto l => exact hp
    | outgrown => exact hp
  | cond c x y ihx ihy =>
    intro an k s a w g w0 g0 he m ev
    simp only [exec, execG, rgOf, rqOf] at he
    unfold condA at he
    split at he
    · rename_i t ht
      have hr := m.fr.eval (a := a) c
      rw [ht] at hr
      generalize hu : a.eval c = u at hr
      cases hr
      refine wp_cond hu ?_
      cases t with
      | true => exact ihx _ _ _ a w g w0 g0 he (m.enter _) ev
      | false => exact ihy _ _ _ a w g w0 g0 he (m.enter _) ev
    · cases he
  | block id c ih =>
    intro an k s a w g w0 g0 he m ev
    simp only [exec, execG, rgOf, rqOf] at he
    refine wp_block (wp_mono (ih _ _ _ a w g w0 g0 he (m.enter _) ev) ?_)
    intro e a' w' hp
    cases e with
    | normal => exact hp
    | exit id' =>
      obtain ⟨s', g', m', ev', hk⟩ := hp
      simp only [Exit.inBlock]
      by_cases hid : id' = id
      · subst hid
        rw [if_pos rfl]
        simp only [beq_self_eq_true, cond_true] at hk
        exact ⟨s', g', m', ev', hk⟩
      · rw [if_neg hid]
        have : (id' == id) = false := by simpa using hid
        simp only [this, cond_false] at hk
        exact ⟨s', g', m', ev', hk⟩
    | ret => exact hp
    | panic ch => exact hp
    | goto l => exact hp
    | outgrown => exact hp
  | loop c ih =>
    intro an k s a w g w0 g0 he m ev
    simp only [exec, execG, rgOf, rqOf] at he
    refine wp_rounds (fun j a w => ∃ s g, M A.nt s a w g ∧ Ev w0 g0 w g ∧ loopN (fun again s' => exec P A call n c an.a { k with normal := fun s'' => again (an.a.enter s'') } s') j s = some res) ?_ ?_ (n := n) ⟨_, g, m.enter an.a, ev, he⟩
    · rintro a w ⟨s, g, _, _, h⟩
      simp [loopN] at h
    · rintro j a w ⟨s, g, m, ev, h⟩
      simp only [loopN] at h
      refine wp_mono (ih _ _ _ a w g w0 g0 h m ev) ?_
      intro e a' w' hp
      cases e with
      | normal =>
        obtain ⟨s', g', m', ev', hk⟩ := hp
        exact ⟨_, g', m'.enter _, ev', hk⟩
      | exit id => exact hp
      | ret => exact hp
      | panic ch => exact hp
      | goto l => exact hp
      | outgrown => exact hp
  | scope c ih =>
    intro an k s a w g w0 g0 he m ev
    simp only [exec, execG, rgOf, rqOf] at he
    refine wp_scope_straight (wp_mono (ih _ _ _ a w g w0 g0 he (m.enter _) ev) ?_)
    intro e a' w' hp
    cases e with
    | normal => exact hp
    | exit id => exact hp
    | ret => exact hp
    | panic ch => exact hp
    | goto l => exact hp
    | outgrown => exact hp

end
end Go.Ve

/- VE: what a function returns. -/
namespace Go.Ve
open Go

/-- A value that is one value: only its own place counts. -/
theorem Rep.part {w : World} {g : Gh} {wh wh' : Wh} {x : AV} {v : Value} (h : Rep w g wh x v) (hx : x.notTup = true) (he : ∀ c, wh' 0 c = wh 0 c) : Rep w g wh' x v := by
  cases h with
  | list b off s f hn hc ha hs h1 h2 hr => exact .list b off s f hn hc ha hs h1 h2 (by rw [he]; exact hr)
  | undef => exact .undef
  | bool => exact .bool
  | int => exact .int
  | str => exact .str
  | nilPtr => exact .nilPtr
  | ptr ho => exact .ptr ho
  | rptr f h1 h2 => exact .rptr f h1 h2
  | slc hl h => exact .slc hl h
  | nilMap => exact .nilMap
  | map ho => exact .map ho
  | nilFunc => exact .nilFunc
  | func h1 h2 i1 i2 => exact .func h1 h2 i1 i2
  | nilIface => exact .nilIface
  | iface h => exact .iface h
  | agg h1 h2 => exact .agg h1 fun j c v hj hv => (by have := h2 j c v hj hv; rw [← he] at this; exact this)
  | tuple => simp [AV.notTup] at hx

def posOf (t : Nat) : List ResultVar → Nat → Option Nat
  | [], _ => none
  | .tmp t' :: l, i => if t' = t then some i else posOf t l (i + 1)
  | _ :: l, i => posOf t l (i + 1)

/-- The results' rooms go out. -/
def goOut (rs : List ResultVar) : Loc → Loc
  | .tmp t p c => match posOf t rs 0 with
    | some i => if p = 0 then .res i c else .tmp t p c
    | none => .tmp t p c
  | l => l
theorem goOut_turn (rs : List ResultVar) : Turn (goOut rs) where
  obj _ := rfl
  cell _ _ := rfl
  back l id h := by
    cases l <;> simp [goOut] at h
    · split at h
      · split at h <;> cases h
      · cases h
    · exact congrArg _ h

theorem pos_mem {t : Nat} : ∀ (rs : List ResultVar) (i : Nat), t ∉ resTmps rs → posOf t rs i = none
  | [], _, _ => rfl
  | .tmp t' :: l, i, h => by
    simp only [resTmps, List.mem_cons, not_or] at h
    unfold posOf
    rw [if_neg (Ne.symm h.1)]
    exact pos_mem l (i + 1) h.2
  | .cell _ _ :: l, i, h => by
    unfold posOf
    exact pos_mem l (i + 1) h
theorem mem_resTmps {t : Nat} : ∀ {rs : List ResultVar} {j : Nat}, rs[j]? = some (.tmp t) → t ∈ resTmps rs
  | [], j, h => by simp at h
  | r :: l, 0, h => by simp at h; subst h; simp [resTmps]
  | r :: l, j + 1, h => by
    have := mem_resTmps (rs := l) (j := j) (by simpa using h)
    cases r <;> simp [resTmps, this]
theorem pos_at {t : Nat} : ∀ (rs : List ResultVar) (i j : Nat), nodupB (resTmps rs) = true → rs[j]? = some (.tmp t) → posOf t rs i = some (i + j)
  | [], i, j, _, h => by simp at h
  | .tmp t' :: l, i, 0, _, h => by
    simp at h
    subst h
    simp [posOf]
  | .tmp t' :: l, i, j + 1, hn, h => by
    simp only [resTmps, nodupB, Bool.and_eq_true, Bool.not_eq_true'] at hn
    have hl : l[j]? = some (.tmp t) := by simpa using h
    have hne : t' ≠ t := by
      rintro rfl
      have := mem_resTmps hl
      simp at hn
      exact hn.1 this
    unfold posOf
    rw [if_neg hne, pos_at l (i + 1) j hn.2 hl]
    congr 1; omega
  | .cell _ _ :: l, i, 0, hn, h => by simp at h
  | .cell _ _ :: l, i, j + 1, hn, h => by
    unfold posOf
    rw [pos_at l (i + 1) j hn (by simpa using h)]
    congr 1; omega

theorem seqO_get : ∀ {l : List (Option AV)} {vs : List AV}, seqO l = some vs → vs.length = l.length ∧ ∀ (j : Nat) v, vs[j]? = some v → l[j]? = some (some v)
  | [], vs, h => by simp [seqO] at h; subst h; simp
  | x :: l, vs, h => by
    simp only [seqO, Option.bind_eq_some_iff, Option.map_eq_some_iff] at h
    obtain ⟨v, rfl, vs', h1, rfl⟩ := h
    obtain ⟨h2, h3⟩ := seqO_get h1
    refine ⟨by simp [h2], fun j u hj => ?_⟩
    cases j with
    | zero => simp at hj; subst hj; simp
    | succ j => simpa using h3 j u (by simpa using hj)

section
variable {P : Program} {w : World} {g : Gh}

/-- One result. -/
def machineResult (P : Program) (w : World) (tmps : Array Value) : ResultVar → Value
  | .tmp t => tmps.getD t undef
  | .cell a t => match (do loadVar t (← asAddr (tmps.getD a undef)) : Sem Value).run P w with
    | .ok v _ => v
    | _ => undef

def resSem (tmps : Array Value) : ResultVar → Sem Value
  | .tmp t => pure (tmps.getD t undef)
  | .cell x t => do loadVar t (← asAddr (tmps.getD x undef))
theorem results_eq (fn : Func) (tmps : Array Value) : Go.results fn tmps = (do
    let vs ← fn.results.mapM (resSem tmps)
    pure (if h : vs.size = 1 then vs[0] else .tuple vs)) := rfl

theorem result_ok {nt : Nat} {s : St} {a : Act} (m : M nt s a w g) {rs : List ResultVar} (hnd : nodupB (resTmps rs) = true) {j : Nat} {r : ResultVar} (hj : rs[j]? = some r) {v : AV} (he : resultOf P s r = some v) (hv : v.notTup = true) :
    (resSem a.tmps r).run P w = .ok (machineResult P w a.tmps r) w ∧ Rep w (g.map (goOut rs)) (fun _ c => some (.res j c)) v (machineResult P w a.tmps r) := by
  have tn := goOut_turn rs
  cases r with
  | tmp t =>
    refine ⟨rfl, ?_⟩
    simp only [resultOf, Option.some.injEq] at he
    have hr := m.fr t
    unfold hold at he
    cases hb : (getM t s.ob).testBit 0 with
    | false =>
      rw [hb] at he
      simp only [cond_false] at he
      subst he
      exact (tn.rep hr (wh' := wh0) (fun p c l' hl => by cases hl)).copy
    | true =>
      rw [hb] at he
      simp only [cond_true] at he
      subst he
      have hp := pos_at rs 0 j hnd hj
      rw [Nat.zero_add] at hp
      have := tn.rep hr (wh' := fun p c => if p = 0 then some (.res j c) else none) (fun p c l' hl => by
        split at hl
        · rename_i hp0
          subst hp0
          cases hl
          exact ⟨.tmp t 0 c, by simp [whT, hb], by simp [goOut, hp]⟩
        · cases hl)
      exact this.part hv (fun c => by simp)
  | cell x t =>
    simp only [resultOf, Option.map_eq_some_iff] at he
    obtain ⟨v0, hld, rfl⟩ := he
    have hx := (m.fr x).weak
    obtain ⟨u, h1, h2⟩ := load_sound (P := P) m.hr hx hld
    have hptr : ∃ ad, a.tmps.getD x undef = .pointer (some ad) := by
      clear h1 h2
      generalize a.tmps.getD x undef = ux at hx
      generalize getV x s.fr = vx at hx hld
      unfold load at hld
      split at hld
      · simp only [ldAgg, Option.bind_eq_some_iff] at hld
        obtain ⟨p, hp, _⟩ := hld
        cases hx <;> simp [cellsAt] at hp
        · exact ⟨_, rfl⟩
        · exact ⟨_, rfl⟩
      · split at hld
        · simp only [ldCell, Option.bind_eq_some_iff] at hld
          obtain ⟨p, hp, _⟩ := hld
          cases hx <;> simp [cellsAt] at hp
          · exact ⟨_, rfl⟩
          · exact ⟨_, rfl⟩
        · cases hld
    obtain ⟨ad, had⟩ := hptr
    have hrun : (do loadVar t (← asAddr (a.tmps.getD x undef)) : Sem Value).run P w = .ok u w := by
      rw [had] at h1 ⊢
      simp only [Instr.loadAt, Instr.sureAddr] at h1
      simpa [asAddr] using h1
    refine ⟨?_, ?_⟩
    · simp only [machineResult, hrun, resSem]
    · simp only [machineResult, hrun]
      exact (tn.rep h2 (wh' := wh0) (fun p c l' hl => by cases hl)).copy

theorem results_ok {nt : Nat} {s : St} {a : Act} (m : M nt s a w g) {fn : Func} (hok : resOk fn = true) {v : AV} (he : results P fn s = some v) (hv : retOk fn (.ret v) = true) :
    ∃ u g', (Go.results fn a.tmps).run P w = .ok u w ∧ Ev w g w g' ∧ HR w g' s.h ∧ Rep w g' (fun p c => some (.res p c)) v u := by
  have tn := goOut_turn fn.results.toList
  simp only [resOk, Bool.and_eq_true] at hok
  have hok := hok.1
  have run : ∀ (hall : ∀ r ∈ fn.results.toList, ∃ (v : AV) (j : Nat), fn.results.toList[j]? = some r ∧ resultOf P s r = some v ∧ v.notTup = true),
      (Go.results fn a.tmps).run P w = .ok (if h : (fn.results.map (machineResult P w a.tmps)).size = 1 then (fn.results.map (machineResult P w a.tmps))[0] else .tuple (fn.results.map (machineResult P w a.tmps))) w := by
    intro hall
    have hm := run_mapM_array (P := P) (w := w) (resSem a.tmps) (machineResult P w a.tmps) fn.results (fun r hr => by
        obtain ⟨v, j, h1, h2, h3⟩ := hall r (by simpa using hr)
        exact (result_ok m hok h1 h2 h3).1)
    rw [results_eq, Sem.run_bind, hm]
    rfl
  unfold results at he
  cases hrs : fn.results.toList with
  | nil =>
    rw [hrs] at he run
    simp [resN, seqO] at he
    subst he
    have h0 : fn.results = #[] := by rw [← Array.toList_inj]; exact hrs
    refine ⟨_, _, run (by simp), tn.ev, tn.hr m.hr, ?_⟩
    rw [dif_neg (by simp [h0])]
    exact .tuple (by simp [h0]) (by simp)
  | cons r rs =>
    have h0 : fn.results.size = rs.length + 1 := by rw [← Array.length_toList, hrs]; rfl
    cases rs with
    | nil =>
      rw [hrs] at he
      simp only [List.map_cons, List.map_nil, resN] at he
      have hnt : v.notTup = true := by
        cases v <;> first | rfl | skip
        simp [retOk, h0] at hv
      have ha : fn.results = #[r] := by rw [← Array.toList_inj]; exact hrs
      obtain ⟨h1, h2⟩ := result_ok m hok (j := 0) (r := r) (by rw [hrs]; rfl) he hnt
      refine ⟨_, _, run (fun r' hr' => by rw [hrs] at hr'; simp at hr'; subst hr'; exact ⟨v, 0, by rw [hrs]; rfl, he, hnt⟩), tn.ev, tn.hr m.hr, ?_⟩
      simp only [ha]
      rw [dif_pos (by simp)]
      simpa [ha] using h2.part hnt (fun c => rfl)
    | cons r2 rs2 =>
      have hm : resN (fn.results.toList.map (resultOf P s)) = (seqO (fn.results.toList.map (resultOf P s))).map .tuple := by rw [hrs]; rfl
      rw [hm] at he
      simp only [Option.map_eq_some_iff] at he
      obtain ⟨vs, hvs, rfl⟩ := he
      obtain ⟨s1, s2⟩ := seqO_get hvs
      simp only [retOk, Bool.and_eq_true, List.all_eq_true] at hv
      have at_ : ∀ (j : Nat) r', fn.results.toList[j]? = some r' → ∃ v, vs[j]? = some v ∧ resultOf P s r' = some v ∧ v.notTup = true := by
        intro j r' hj
        have hl : j < vs.length := by rw [s1, List.length_map]; exact (List.getElem?_eq_some_iff.1 hj).1
        have h1 := s2 j vs[j] (by simp [hl])
        rw [List.getElem?_map, hj] at h1
        exact ⟨vs[j], by simp [hl], by simpa using h1, hv.2 _ (by simp)⟩
      refine ⟨_, _, run (fun r' hr' => by
        obtain ⟨j, hj⟩ := List.getElem?_of_mem hr'
        obtain ⟨v, _, h1, h2⟩ := at_ j r' hj
        exact ⟨v, j, hj, h1, h2⟩), tn.ev, tn.hr m.hr, ?_⟩
      rw [dif_neg (by simp [h0])]
      refine .tuple (by simp [s1]) fun i x u hx hu => ?_
      simp only [Array.getElem?_map, Option.map_eq_some_iff] at hu
      obtain ⟨r', hr', rfl⟩ := hu
      obtain ⟨v, h1, h2, h3⟩ := at_ i r' (by simpa using hr')
      rw [hx] at h1
      cases h1
      exact (result_ok m hok (j := i) (by simpa using hr') h2 h3).2

end
end Go.Ve

/- VE: a call. -/
namespace Go.Ve
open Go

theorem getV_arg : ∀ (args : List AV) (i t : Nat), getV t (argFr i args) = if i ≤ t then (args[t - i]?).getD .undef else .undef
  | [], i, t => by simp [argFr, getV]
  | v :: l, i, t => by
    simp only [argFr, getV]
    by_cases h : i = t
    · subst h; simp
    · rw [beq_no h, cond_false, getV_arg l (i + 1) t]
      by_cases h2 : i ≤ t
      · rw [if_pos h2, if_pos (by omega), show t - i = (t - (i + 1)) + 1 by omega]
        simp
      · rw [if_neg h2, if_neg (by omega)]

/-- What a body leaves behind. -/
def BPost (w : World) (g : Gh) (r : AEnd × H) : Ending → World → Prop
  | .returned u, w' => ∃ v g', r.1 = .ret v ∧ Ev w g w' g' ∧ HR w' g' r.2 ∧ Rep w' g' (fun p c => some (.res p c)) v u
  | .panicked chain, w' => ∃ v u g', r.1 = .pan v ∧ chain = [{ v := u, recovered := false }] ∧ Ev w g w' g' ∧ HR w' g' r.2 ∧ Rep w' g' wh0 v u
  | .outgrown, _ => False

section
variable {P : Program} {w : World} {g : Gh} {h : H}

theorem whT_nil (t : Nat) : whT [] t = wh0 := by funext p c; simp [whT, getM, wh0]

theorem body_sound {call : Cl} (hcall : CallOk P call) {A : FAnn} {f : FuncId} {fn : Func} {an : Ann} {n : Nat} {c : Code} {args : List AV} {r : AEnd × H} (hf : P.funcs[f]? = some fn) (hb : fn.body = some c) (hmix : P.follows .mixedOrders = true) (hq : ∀ f ∈ A.q, Still call f)
    (hok : resOk fn = true) (hle : args.length ≤ fn.ntmps) (hro : retOk fn r.1 = true) (he : body P A call fn an n c args h = some r) {vals : Array Value} (hH : HR w g h) (ha : ArgsRep w g args vals) : Calls P f vals w (BPost w g r) := by
  refine calls_of_wp hf hb ?_
  have m : M (A.fit fn).nt ⟨argFr 0 args, [], [], h⟩ { tmps := vals ++ Array.replicate (fn.ntmps - vals.size) undef, defers := [] } w g := by
    refine ⟨fun t => ?_, hH, by simp [FAnn.fit]; omega, rfl, rfl⟩
    rw [whT_nil, getV_arg, if_pos (Nat.zero_le _), Nat.sub_zero]
    by_cases ht : t < args.length
    · have h1 : args[t]? = some args[t] := by simp [ht]
      have htv : t < vals.size := by rw [ha.1]; exact ht
      rw [h1]
      simp only [Option.getD_some]
      have h2 : vals[t]? = some vals[t] := by simp [htv]
      have h3 : (vals ++ Array.replicate (fn.ntmps - vals.size) undef).getD t undef = vals[t] := by
        rw [Array.getD_eq_getD_getElem?, Array.getElem?_append_left htv, h2]; rfl
      simp only [h3]
      exact ha.2 t _ _ h1 h2
    · have h1 : args[t]? = none := by simp; omega
      rw [h1]
      exact .undef
  have ex := exec_sound hcall (A := A.fit fn) hmix hq c an (kTop P fn) _ _ w g w g he (m.enter an) (.refl w g)
  refine wp_mono ex ?_
  intro e a' w' hp
  have fin : ∀ s g', M (A.fit fn).nt s a' w' g' → Ev w g w' g' → finish P fn s = some r → a'.defers = [] ∧ ∃ v, (Go.results fn a'.tmps).run P w' = .ok v w' ∧ BPost w g r (.returned v) w' := by
    intro s g' m' ev hfin
    unfold finish at hfin
    rw [m'.ds] at hfin
    simp only [Option.map_eq_some_iff] at hfin
    obtain ⟨v, hv, rfl⟩ := hfin
    obtain ⟨u, g2, h1, h2, h3, h4⟩ := results_ok m' hok hv hro
    exact ⟨m'.df, u, h1, v, g2, rfl, ev.trans h2, h3, h4⟩
  cases e with
  | normal => obtain ⟨s, g', m', ev, hk⟩ := hp; exact fin s g' m' ev hk
  | ret => obtain ⟨s, g', m', ev, hk⟩ := hp; exact fin s g' m' ev hk
  | exit id => obtain ⟨s, g', m', ev, hk⟩ := hp; cases hk
  | panic chain =>
    obtain ⟨s, g', v, u, m', ev, hch, hr, hk⟩ := hp
    simp only [kTop, m'.ds, Option.some.injEq] at hk
    subst hk
    exact ⟨m'.df, v, u, g', rfl, hch, ev, m'.hr, hr⟩
  | goto l => exact hp
  | outgrown => exact hp

/-! ### what is the caller's own -/
def Loc.mine : Loc → Bool
  | .tmp _ _ _ | .res _ _ => true
  | _ => false
def Gh.strip (g : Gh) : Gh := ⟨fun b => match g.own b with
  | some l => if l.mine then none else some l
  | none => none, g.st⟩
def Gh.merge (g g' : Gh) : Gh := ⟨fun b => match g.own b with
  | some l => if l.mine then some l else g'.own b
  | none => g'.own b, g'.st⟩

theorem strip_own {b : Nat} {l : Loc} : g.strip.own b = some l ↔ g.own b = some l ∧ l.mine = false := by
  unfold Gh.strip
  simp only
  split
  · rename_i l' hl
    rw [hl]
    split
    · rename_i hm
      constructor
      · intro h; cases h
      · rintro ⟨h, h2⟩; cases h; rw [hm] at h2; cases h2
    · rename_i hm
      constructor
      · intro h; cases h; exact ⟨rfl, by simpa using hm⟩
      · rintro ⟨h, _⟩; exact h
  · rename_i hl
    rw [hl]; simp
theorem strip_mine {b : Nat} {l : Loc} (h : g.own b = some l) (hm : l.mine = true) : g.strip.own b = none := by
  cases hs : g.strip.own b with
  | none => rfl
  | some l' =>
    have := strip_own.1 hs
    rw [h] at this
    cases this.1
    rw [hm] at this
    cases this.2
theorem strip_none {b : Nat} (h : g.own b = none) : g.strip.own b = none := by
  cases hs : g.strip.own b with
  | none => rfl
  | some l' => have := (strip_own.1 hs).1; rw [h] at this; cases this
theorem strip_mono : Mono w g w g.strip := ⟨fun _ _ h => ⟨h, rfl⟩, fun b id h => strip_own.2 ⟨h, rfl⟩⟩
theorem HR.strip (hH : HR w g h) : HR w g.strip h :=
  ⟨fun id o hid => (hH.obj id o hid).mono strip_mono (fun _ _ => ⟨rfl, fun _ h => h⟩) (fun _ _ hb => ⟨strip_own.2 ⟨hb, rfl⟩, rfl, fun _ h => h⟩),
   fun b b' id h1 h2 => hH.inj b b' id (strip_own.1 h1).1 (strip_own.1 h2).1, fun b l h1 => hH.lt b l (strip_own.1 h1).1, fun b id h1 => hH.bd b id (strip_own.1 h1).1, hH.stlt⟩
theorem ArgsRep.strip {args : List AV} {vals : Array Value} (ha : ArgsRep w g args vals) : ArgsRep w g.strip args vals := ⟨ha.1, fun j x v hx hv => (ha.2 j x v hx hv).mono strip_mono Moves.none⟩

section
variable {w' : World} {g' : Gh} {h' : H}

theorem merge_mine {b : Nat} {l : Loc} (h : g.own b = some l) (hm : l.mine = true) : (g.merge g').own b = some l := by
  simp [Gh.merge, h, hm]
theorem merge_else {b : Nat} (h : ∀ l, g.own b = some l → l.mine = false) : (g.merge g').own b = g'.own b := by
  unfold Gh.merge
  simp only
  split
  · rename_i l hl
    rw [if_neg (by rw [h l hl]; simp)]
  · rfl
theorem merge_of (hH : HR w g h) (ev : Ev w g.strip w' g') {b : Nat} {l : Loc} (hb : g'.own b = some l) : (g.merge g').own b = some l := by
  rw [merge_else, hb]
  intro l' hl'
  cases hm : l'.mine with
  | false => rfl
  | true =>
    have := (ev.old b (hH.lt b _ hl') (strip_mine hl' hm)).1
    rw [hb] at this; cases this
theorem merge_back {b : Nat} {l : Loc} (hb : (g.merge g').own b = some l) : (g.own b = some l ∧ l.mine = true) ∨ g'.own b = some l := by
  unfold Gh.merge at hb
  simp only at hb
  split at hb
  · rename_i l' hl'
    split at hb
    · rename_i hm; cases hb; exact .inl ⟨hl', hm⟩
    · exact .inr hb
  · exact .inr hb

theorem merge_mono (hH : HR w g h) (ev : Ev w g.strip w' g') : Mono w' g' w' (g.merge g') := ⟨fun _ _ h => ⟨h, rfl⟩, fun _ _ hb => merge_of hH ev hb⟩
theorem merge_keeps (hH : HR w g h) (ev : Ev w g.strip w' g') (l : Loc) : Keeps w' g' w' (g.merge g') l l := fun _ hb => ⟨merge_of hH ev hb, rfl, fun _ h => h⟩
theorem merge_rep (hH : HR w g h) (ev : Ev w g.strip w' g') {wh : Wh} {x : AV} {v : Value} (hr : Rep w' g' wh x v) : Rep w' (g.merge g') wh x v := hr.mono (merge_mono hH ev) fun _ _ l hl => ⟨l, hl, merge_keeps hH ev l⟩
theorem merge_hr (hH : HR w g h) (ev : Ev w g.strip w' g') (hH' : HR w' g' h') : HR w' (g.merge g') h' where
  obj id o hid := (hH'.obj id o hid).mono (merge_mono hH ev) (fun _ _ => ⟨rfl, fun _ h => h⟩) (fun _ => merge_keeps hH ev _)
  inj b b' id h1 h2 := by
    rcases merge_back h1 with ⟨_, hm⟩ | h1
    · cases hm
    · rcases merge_back h2 with ⟨_, hm⟩ | h2
      · cases hm
      · exact hH'.inj b b' id h1 h2
  lt b l h1 := by
    rcases merge_back h1 with ⟨h1, _⟩ | h1
    · exact Nat.lt_of_lt_of_le (hH.lt b l h1) ev.size
    · exact hH'.lt b l h1
  bd b id h1 := by
    rcases merge_back h1 with ⟨_, hm⟩ | h1
    · cases hm
    · exact hH'.bd b id h1
  stlt := hH'.stlt
theorem merge_ev (hH : HR w g h) (ev : Ev w g.strip w' g') : Ev w g w' (g.merge g') where
  size := ev.size
  st := ev.st
  obj b id hb := merge_of hH ev (ev.obj b id (strip_own.2 ⟨hb, rfl⟩))
  old b hlt hb := by
    obtain ⟨h1, h2, h3⟩ := ev.old b hlt (strip_none hb)
    refine ⟨?_, h2, h3⟩
    rw [merge_else (by intro l hl; rw [hb] at hl; cases hl)]
    exact h1
  os := ev.os
  out := ev.out
theorem merge_tmp (hH : HR w g h) (ev : Ev w g.strip w' g') (t p c : Nat) : Keeps w g w' (g.merge g') (.tmp t p c) (.tmp t p c) := fun b hb => by
  obtain ⟨_, h2, h3⟩ := ev.old b (hH.lt b _ hb) (strip_mine hb rfl)
  exact ⟨merge_mine hb rfl, h2, h3⟩
end

theorem BPost.toCPost (hH : HR w g h) {r : AEnd × H} {e : Ending} {w' : World} (hp : BPost w g.strip r e w') : CPost w g r e w' := by
  cases e with
  | returned u =>
    obtain ⟨v, g', h1, ev, hH', hr⟩ := hp
    exact ⟨v, g.merge g', h1, merge_ev hH ev, merge_hr hH ev hH', merge_tmp hH ev, merge_rep hH ev hr⟩
  | panicked chain =>
    obtain ⟨v, u, g', h1, h2, ev, hH', hr⟩ := hp
    exact ⟨v, u, g.merge g', h1, h2, merge_ev hH ev, merge_hr hH ev hH', merge_tmp hH ev, merge_rep hH ev hr⟩
  | outgrown => exact hp.elim

theorem callFunc_enter {f : FuncId} {fn : Func} {c : Code} (hf : P.funcs[f]? = some fn) (hb : fn.body = some c) (hok : resOk fn = true) (vals : Array Value) : (callFunc f vals).run P w = .ok (.enter f vals) w := by
  simp only [resOk, Bool.and_eq_true, bne_iff_ne, ne_eq] at hok
  simp [callFunc, hf, hok.2, hb]

end
end Go.Ve

/- VE: a call by value alone. -/
namespace Go.Ve
open Go

section
variable {P : Program} {w : World} {g : Gh} {h : H}

theorem pureL_mem {l : List AV} (h : pureL l = true) : ∀ c ∈ l, c.pure = true := by
  induction l with
  | nil => simp
  | cons x l ih =>
    simp only [pureL, Bool.and_eq_true] at h
    intro c hc
    rcases List.mem_cons.1 hc with rfl | hc
    · exact h.1
    · exact ih h.2 c hc
theorem pureR_mem {l : List (List AV)} (h : pureR l = true) : ∀ r ∈ l, pureL r = true := by
  induction l with
  | nil => simp
  | cons x l ih =>
    simp only [pureR, Bool.and_eq_true] at h
    intro c hc
    rcases List.mem_cons.1 hc with rfl | hc
    · exact h.1
    · exact ih h.2 c hc

/-- What leads to no object stands in any world in which what stays has stayed. -/
theorem Rep.pureMono {g2 : Gh} (hst : ∀ b k, g.st b k → g2.st b k) {wh : Wh} {x : AV} {v : Value} (hr : Rep w g wh x v) : ∀ {wh2 : Wh}, x.pure = true → Moves w g w g2 wh wh2 → Rep w g2 wh2 x v := by
  induction hr with
  | undef => intros; exact .undef
  | bool => intros; exact .bool
  | int => intros; exact .int
  | str => intros; exact .str
  | nilPtr => intros; exact .nilPtr
  | ptr ho => intro wh2 hp; simp [AV.pure] at hp
  | rptr f h1 _ ih =>
    intro wh2 hp _
    simp only [AV.pure] at hp
    exact .rptr f (fun j c hj => ⟨(h1 j c hj).1, hst _ _ (h1 j c hj).2.1, (h1 j c hj).2.2⟩) (fun j c hj => ih j c hj (pureL_mem hp c (List.mem_of_getElem? hj)) Moves.none)
  | list b off s f hn hc ha hs h1 _ hroom ih =>
    intro wh2 hp mv
    simp only [AV.pure] at hp
    exact .list b off s f hn hc ha hs (fun i r j cl hi hj => ⟨(h1 i r j cl hi hj).1, hst _ _ (h1 i r j cl hi hj).2.1, (h1 i r j cl hi hj).2.2⟩)
      (fun i r j cl hi hj => ih i r j cl hi hj (pureL_mem (pureR_mem hp r (List.mem_of_getElem? hi)) cl (List.mem_of_getElem? hj)) Moves.none) (hroom.mono (mv 0 0))
  | slc hl h => intro wh2 hp; simp [AV.pure] at hp
  | nilMap => intros; exact .nilMap
  | map ho => intro wh2 hp; simp [AV.pure] at hp
  | nilFunc => intros; exact .nilFunc
  | func h1 h2 _ _ i1 i2 =>
    intro wh2 hp _
    simp only [AV.pure, Bool.and_eq_true] at hp
    exact .func h1 h2 (fun i x y hx hy => i1 i x y hx hy (pureL_mem hp.1 x (List.mem_of_getElem? hx)) Moves.none) (fun i x y hx hy => i2 i x y hx hy (pureL_mem hp.2 x (List.mem_of_getElem? hx)) Moves.none)
  | nilIface => intros; exact .nilIface
  | iface _ ih => intro wh2 hp _; simp only [AV.pure] at hp; exact .iface (ih hp Moves.none)
  | agg h1 _ ih => intro wh2 hp mv; simp only [AV.pure] at hp; exact .agg h1 fun j c v hj hv => ih j c v hj hv (pureL_mem hp c (List.mem_of_getElem? hj)) (fun _ _ => mv 0 j)
  | tuple h1 _ ih => intro wh2 hp mv; simp only [AV.pure] at hp; exact .tuple h1 fun i x v hx hv => ih i x v hx hv (pureL_mem hp x (List.mem_of_getElem? hx)) (fun _ j => mv i j)

/-- One value, its array (if it is a slice into one) taken as it is. -/
theorem freezeCell_rep {g2 : Gh} (hH : HR w g h) (hst : ∀ b k, g.st b k → g2.st b k) (hob : ∀ b id, g.own b = some (.obj id) → ∀ k, g2.st b k) {wh wh2 : Wh} {x y : AV} {v : Value} (hr : Rep w g wh x v) (he : x.freezeCell h = some y) (hp : y.pure = true)
    (mv : Moves w g w g2 wh wh2) : Rep w g2 wh2 y v := by
  unfold AV.freezeCell at he
  split at he
  · rename_i id off len s
    split at he
    · rename_i cells ro hid
      split at he
      · rename_i hle
        cases he
        simp only [AV.pure] at hp
        obtain ⟨c1, c2⟩ := chunks_get s len (cells.drop off)
        cases hr with
        | @slc _ _ _ _ _ al c hlc hac =>
          have rowl : ∀ r ∈ chunks s len (cells.drop off), r.length = s := by
            intro r hr
            obtain ⟨i, hi⟩ := List.getElem?_of_mem hr
            have hil : i < len := by have := (List.getElem?_eq_some_iff.1 hi).1; omega
            rw [c2 i hil] at hi
            cases hi
            have : (i + 1) * s ≤ len * s := Nat.mul_le_mul_right _ (by omega)
            rw [Nat.add_mul] at this
            simp; omega
          by_cases hl0 : len = 0
          · subst hl0
            exact .list 0 0 s (fun _ _ => undef) (by simp [c1]) hlc (fun h => absurd (List.eq_nil_of_length_eq_zero c1) h) rowl (fun i r j cl hi => by simp [chunks] at hi) (fun i r j cl hi => by simp [chunks] at hi) trivial
          · rcases hac with rfl | ⟨b, rfl, ho⟩
            · omega
            · cases hH.obj id _ hid with
              | @arr _ _ b' cs ty fz ho' hb hsz hcs hro =>
                obtain rfl := hH.inj _ _ _ ho ho'
                have cell : ∀ (i : Nat) r (j : Nat) cl, (chunks s len (cells.drop off))[i]? = some r → r[j]? = some cl → cells[off + i * s + j]? = some cl ∧ ∃ u, cs[off + i * s + j]? = some u := by
                  intro i r j cl hi hj
                  have hil : i < len := by have := (List.getElem?_eq_some_iff.1 hi).1; omega
                  rw [c2 i hil] at hi
                  cases hi
                  rw [List.getElem?_take] at hj
                  split at hj
                  · rw [List.getElem?_drop, List.getElem?_drop] at hj
                    rw [← Nat.add_assoc] at hj
                    refine ⟨hj, ?_⟩
                    have := (List.getElem?_eq_some_iff.1 hj).1
                    exact ⟨cs[off + i * s + j]'(by omega), by simp [show off + i * s + j < cs.size by omega]⟩
                  · cases hj
                refine .list b off s (fun i j => (cs[off + i * s + j]?).getD undef) (by simp [c1]) hlc (fun _ => rfl) rowl (fun i r j cl hi hj => ?_) (fun i r j cl hi hj => ?_) trivial
                · obtain ⟨h1, u, h2⟩ := cell i r j cl hi hj
                  refine ⟨(hcs _ cl u h1 h2).1, hob b id ho _, ?_⟩
                  simp [World.cell?, hb, h2]
                · obtain ⟨h1, u, h2⟩ := cell i r j cl hi hj
                  simp only [h2, Option.getD_some]
                  exact (hcs _ cl u h1 h2).2.weak.pureMono hst (pureL_mem (pureR_mem hp r (List.mem_of_getElem? hi)) cl (List.mem_of_getElem? hj)) Moves.none
      · cases he
    · cases he
  · cases he
    exact hr.pureMono hst hp mv

theorem mapM_get {α β : Type} {f : α → Option β} : ∀ {l : List α} {m : List β}, l.mapM f = some m → m.length = l.length ∧ ∀ (j : Nat) y, m[j]? = some y → ∃ x, l[j]? = some x ∧ f x = some y
  | [], m, h => by simp at h; subst h; simp
  | x :: l, m, h => by
    simp only [List.mapM_cons, Option.bind_eq_bind, Option.pure_def, Option.bind_eq_some_iff, Option.some.injEq] at h
    obtain ⟨y, h1, m', h2, rfl⟩ := h
    obtain ⟨h3, h4⟩ := mapM_get h2
    refine ⟨by simp [h3], fun j z hj => ?_⟩
    cases j with
    | zero => simp at hj; subst hj; exact ⟨x, by simp, h1⟩
    | succ j =>
      obtain ⟨x', h5, h6⟩ := h4 j z (by simpa using hj)
      exact ⟨x', by simpa using h5, h6⟩

theorem freezeAgg_rep {g2 : Gh} (hH : HR w g h) (hst : ∀ b k, g.st b k → g2.st b k) (hob : ∀ b id, g.own b = some (.obj id) → ∀ k, g2.st b k) {wh wh2 : Wh} {x y : AV} {v : Value} (hr : Rep w g wh x v) (he : x.freezeAgg h = some y) (hp : y.pure = true)
    (mv : Moves w g w g2 wh wh2) : Rep w g2 wh2 y v := by
  cases x with
  | agg cs =>
    simp only [AV.freezeAgg, Option.map_eq_some_iff] at he
    obtain ⟨ys, hm, rfl⟩ := he
    obtain ⟨h3, h4⟩ := mapM_get hm
    simp only [AV.pure] at hp
    cases hr with
    | agg h1 h2 =>
      refine .agg (by omega) fun j c u hj hu => ?_
      obtain ⟨x, hx, hf⟩ := h4 j c hj
      exact freezeCell_rep hH hst hob (h2 j x u hx hu) hf (pureL_mem hp c (List.mem_of_getElem? hj)) (fun _ _ => mv 0 j)
  | _ => exact freezeCell_rep hH hst hob hr he hp mv

theorem freeze_rep {g2 : Gh} (hH : HR w g h) (hst : ∀ b k, g.st b k → g2.st b k) (hob : ∀ b id, g.own b = some (.obj id) → ∀ k, g2.st b k) {wh wh2 : Wh} {x y : AV} {v : Value} (hr : Rep w g wh x v) (he : x.freeze h = some y) (hp : y.pure = true)
    (mv : Moves w g w g2 wh wh2) : Rep w g2 wh2 y v := by
  cases x with
  | tuple cs =>
    simp only [AV.freeze, Option.map_eq_some_iff] at he
    obtain ⟨ys, hm, rfl⟩ := he
    obtain ⟨h3, h4⟩ := mapM_get hm
    simp only [AV.pure] at hp
    cases hr with
    | tuple h1 h2 =>
      refine .tuple (by omega) fun j c u hj hu => ?_
      obtain ⟨x, hx, hf⟩ := h4 j c hj
      exact freezeAgg_rep hH hst hob (h2 j x u hx hu) hf (pureL_mem hp c (List.mem_of_getElem? hj)) (fun _ i => mv j i)
  | _ => exact freezeAgg_rep hH hst hob hr he hp mv

end
end Go.Ve
