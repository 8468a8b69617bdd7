import Derived.Test.YtdggnlgklicbdaaVa2
import Derived.Orders
set_option linter.all false
namespace Go.Ve
open Go
section
variable {P : Program} {A : FAnn} {r i : Nat} {fr fr' : List (Nat × AV)} {ob : List (Nat × Nat)} {h l : H} {call : Cl} {all : List Oper} {o : Oper}
theorem valOp_like' {op : Op} (hl : Like (opTmps op) fr fr') : valOp P A r i fr ob h op = valOp P A r i fr' ob h op := by
  by_cases hp : plainOp op = true
  · exact valOp_like hp hl
  · cases op <;> try (simp [plainOp] at hp; done)
    rename_i c
    obtain ⟨callee, args, tys⟩ := c
    cases callee with
    | value f => simp [plainOp] at hp
    | invoke r m => simp [plainOp] at hp
    | builtin b =>
      cases b <;> first | (simp [plainOp] at hp; done) | skip
      simp only [valOp]
      split
      · rename_i x y t t2 hx ht
        have m1 : x ∈ args := by rw [← Array.mem_toList_iff, hx]; simp
        have m2 : y ∈ args := by rw [← Array.mem_toList_iff, hx]; simp
        rw [vOf_like hl (x := x) (by simpa [Op.operands, Call.operands] using m1), vOf_like hl (x := y) (by simpa [Op.operands, Call.operands] using m2)]
      · rfl
theorem heapOp_like {op : Op} (hl : Like (opTmps op) fr fr') : heapOp P A r i fr ob h op = heapOp P A r i fr' ob h op := by
  have v := fun {x} hx => vOf_like (op := op) hl (x := x) hx
  cases op <;> try rfl
  case box t x => simp [heapOp, v (x := x) (by simp [Op.operands])]
  case store t x y => simp [heapOp, v (x := x) (by simp [Op.operands]), v (x := y) (by simp [Op.operands])]
  case makeSlice t x y => simp [heapOp, v (x := x) (by simp [Op.operands]), v (x := y) (by simp [Op.operands])]
  case mapUpdate t x y z => simp [heapOp, v (x := x) (by simp [Op.operands]), v (x := y) (by simp [Op.operands]), v (x := z) (by simp [Op.operands])]
  case insert t x y z => simp [heapOp, v (x := x) (by simp [Op.operands]), v (x := y) (by simp [Op.operands]), v (x := z) (by simp [Op.operands])]
  case range t x => simp [heapOp, v (x := x) (by simp [Op.operands])]
  case next x s => simp [heapOp, v (x := x) (by simp [Op.operands])]
  case load t x => simp [heapOp, v (x := x) (by simp [Op.operands])]
  case call c =>
    obtain ⟨callee, args, tys⟩ := c
    cases callee with
    | value f => rfl
    | invoke r m => rfl
    | builtin b =>
      cases b <;> first | rfl | skip
      simp only [heapOp]
      split
      · rename_i x y t t2 hx ht
        have m1 : x ∈ args := by rw [← Array.mem_toList_iff, hx]; simp
        have m2 : y ∈ args := by rw [← Array.mem_toList_iff, hx]; simp
        rw [vOf_like hl (x := x) (by simpa [Op.operands, Call.operands] using m1), vOf_like hl (x := y) (by simpa [Op.operands, Call.operands] using m2)]
      · rfl
theorem gated_like {α : Type} {x : Option α} {y : α} (hl : Like (looks all o) fr fr') : gated all fr o x y = gated all fr' o x y := by
  unfold gated
  split
  · rfl
  · rename_i j w hg
    split
    · rename_i t ht
      rw [hl t (by simp [looks, hg, ht])]
    · rfl
theorem like_ops (hl : Like (looks all o) fr fr') : Like (opTmps o.op) fr fr' := fun t ht => hl t (List.mem_append_left _ ht)
theorem call_of {f : Operand} {args : Array Operand} (hk : kindOf A r i o.op = .call f args) : ∃ c : Call, o.op = .call c ∧ c.callee = .value f ∧ c.args = args := by
  unfold kindOf at hk
  split at hk <;> first | (cases hk; done) | skip
  · split at hk <;> cases hk
  · split at hk <;> cases hk
  · rename_i hoo
    cases hk
    exact ⟨_, hoo, rfl, rfl⟩
  · split at hk <;> cases hk
def stp (P : Program) (A : FAnn) (call : Cl) (r : Nat) (all : List Oper) (ob : List (Nat × Nat)) (i : Nat) (o : Oper) (fr : List (Nat × AV)) (h : H) : Option (AV × H) :=
  stepQ P A call r all ob i o fr h fun v h => some (v, h)
theorem stepQ_eq {R : Type} {k : AV → H → Option R} : stepQ P A call r all ob i o fr h k = (stp P A call r all ob i o fr h).bind fun p => k p.1 p.2 := by
  unfold stp stepQ
  split
  · split
    · rfl
    · simp [Option.bind_assoc]
    · rfl
  · split
    · rfl
    · simp [Option.bind_assoc]
    · rfl
  · simp [Option.bind_assoc]
  · simp [Option.bind_assoc]
  · rw [Option.bind_assoc]
    congr 1
    funext p
    cases p.1 <;> rfl
  · rfl
  · rfl
theorem stp_like (hl : Like (looks all o) fr fr') : stp P A call r all ob i o fr h = stp P A call r all ob i o fr' h := by
  unfold stp stepQ
  split
  · rw [totOp_like (like_ops hl)]
    split
    · rfl
    · rw [gated_like hl]
    · rfl
  · split
    · rfl
    · rw [gated_like hl]
    · rfl
  · rw [valOp_like' (like_ops hl), gated_like hl]
  · rw [heapOp_like (like_ops hl), gated_like hl]
  · rename_i f args hk
    obtain ⟨c, ho, hc, hca⟩ := call_of hk
    have ho' := like_ops hl
    have hm : ∀ x ∈ args, x ∈ o.op.operands := fun x hx => by rw [ho, ← hca] at *; simp [Op.operands, Call.operands, hx]
    have hf : vOf fr f = vOf fr' f := vOf_like ho' (by rw [ho]; simp [Op.operands, Call.operands, hc])
    have ha : (callArgs A f fr args) = (callArgs A f fr' args) := by
      unfold callArgs
      have k1 : (args.toList.map fun x => (vOf fr x).copy) = args.toList.map fun x => (vOf fr' x).copy := List.map_congr_left fun x hx => by rw [vOf_like ho' (hm x (by simpa using hx))]
      have k2 : (args.toList.map fun x => (vOf fr x).canon) = args.toList.map fun x => (vOf fr' x).canon := List.map_congr_left fun x hx => by rw [vOf_like ho' (hm x (by simpa using hx))]
      rw [k1, k2]
    rw [hf, ha, gated_like hl]
  · rfl
  · rfl
theorem bindA_eq {α R : Type} (x : Option α) (f : α → Option R) : bindA x f = x.bind f := by cases x <;> rfl
theorem withV_plain {R : Type} {g : Bool} {v : AV} {k : AV → Option R} {res : R} (h : withV g v k = some res) : k v = some res := by
  unfold withV at h
  cases g with
  | false => exact h
  | true =>
    simp only [cond_true] at h
    unfold condA at h
    split at h
    · rename_i t
      cases t with
      | true => exact h
      | false => exact h
    · cases h
theorem gateK_cases {R α : Type} {x : Option α} {y : α} {f : α → Option R} {fx : α → Option R} {z : Option R} {res : R} (h : gateK all fr o (bindA x fx) z = some res) (hx : ∀ a, fx a = some res → f a = some res) (hz : z = some res → f y = some res) : (gated all fr o x y).bind f = some res := by
  unfold gateK at h
  unfold gated
  have hb : bindA x fx = some res → x.bind f = some res := by
    intro h
    rw [bindA_eq] at h
    rw [Option.bind_eq_some_iff] at h ⊢
    obtain ⟨a, h1, h2⟩ := h
    exact ⟨a, h1, hx a h2⟩
  split
  · rename_i hg; rw [hg] at h; exact hb h
  · rename_i j w hg
    rw [hg] at h
    simp only at h
    split
    · rename_i t ht
      rw [ht] at h
      simp only at h
      unfold gate at *
      split
      · rename_i b hb2
        rw [hb2] at h
        simp only at h
        split
        · rename_i hw; rw [if_pos hw] at h; exact hb h
        · rename_i hw; rw [if_neg hw] at h; exact hz h
      · rename_i hb2; rw [hb2] at h; exact hz h
      · rename_i h3 h4
        split at h
        · rename_i hb2; exact absurd hb2 (h3 _)
        · rename_i hb2; exact absurd hb2 h4
        · cases h
    · rename_i ht
      rw [ht] at h
      cases h
theorem off_call {f : Operand} {args : Array Operand} (hk : kindOf A r i o.op = .call f args) : offOf A r i ob o.op = ob := by
  obtain ⟨c, ho, hc, _⟩ := call_of hk
  rw [ho]
  obtain ⟨callee, args', tys⟩ := c
  simp only at hc
  subst hc
  rfl
theorem regionC_plain {R : Type} {k : K R} {res : R} : ∀ (l : List (Nat × Oper)) (fr : List (Nat × AV)) (ob : List (Nat × Nat)) (ds : List ADef) (h : H), regionC P A call r all k l fr ob ds h = some res → region P A call r all k l fr ob ds h = some res
  | [], _, _, _, _, h => h
  | (i, o) :: l, fr, ob, ds, h, he => by
    have ih := regionC_plain (k := k) (res := res) l
    unfold regionC at he
    unfold region
    split at he
    · simp only [strict_eq] at he ⊢
      have key : (gated all fr o (totOp P fr o.op) (.tuple [])).bind (fun v => region P A call r all k l (putV A.nt o.dst v fr) (putM o.dst (maskOf A r i ob o.op) (offOf A r i ob o.op)) ds h) = some res :=
        gateK_cases he (fun v hv => ih _ _ _ _ (withV_plain hv)) (fun hz => ih _ _ _ _ hz)
      split
      · rename_i v hg hv
        simp only [gated, hg, hv, Option.bind_some] at key
        exact key
      · exact key
      · rename_i hg hv
        simp [gated, hg, hv] at key
    · simp only [strict_eq] at he ⊢
      have key : (gated all fr o (newOp P h o.op) (.tuple [], h)).bind (fun p => region P A call r all k l (putV A.nt o.dst p.1 fr) (putM o.dst (maskOf A r i ob o.op) (offOf A r i ob o.op)) ds p.2) = some res :=
        gateK_cases he (fun p hp => ih _ _ _ _ hp) (fun hz => ih _ _ _ _ hz)
      split
      · rename_i v hg hv
        simp only [gated, hg, hv, Option.bind_some] at key
        exact key
      · exact key
      · rename_i hg hv
        simp [gated, hg, hv] at key
    · simp only [strict_eq] at he ⊢
      exact gateK_cases he (fun v hv => ih _ _ _ _ (withV_plain hv)) (fun hz => ih _ _ _ _ hz)
    · simp only [strict_eq] at he ⊢
      exact gateK_cases he (fun p hp => ih _ _ _ _ (withV_plain hp)) (fun hz => ih _ _ _ _ hz)
    · rename_i f args hk
      refine gateK_cases he (fun p hp => ?_) (fun hz => ih _ _ _ _ hz)
      obtain ⟨e, h'⟩ := p
      cases e with
      | ret v =>
        simp only [retOr] at hp
        exact ih _ _ _ _ (withV_plain hp)
      | pan v => exact hp
    · exact he
    · rename_i f args hk
      cases hg : o.guard.isNone with
      | false => rw [hg] at he; cases he
      | true =>
        rw [hg] at he
        simp only [cond_true, bindA_eq, Option.bind_eq_some_iff] at he ⊢
        obtain ⟨d, h1, h2⟩ := he
        exact ⟨d, h1, ih _ _ _ _ h2⟩
theorem gateK_or {R : Type} {x y : Option R} {res : R} (h : gateK all fr o x y = some res) : ((∀ {α : Type} (X : Option α) (Y : α), gated all fr o X Y = X) ∧ x = some res) ∨ ((∀ {α : Type} (X : Option α) (Y : α), gated all fr o X Y = some Y) ∧ o.guard ≠ none ∧ y = some res) := by
  unfold gateK at h
  split at h
  · rename_i hg
    exact .inl ⟨fun X Y => by unfold gated; rw [hg], h⟩
  · rename_i j w hg
    split at h
    · rename_i t ht
      have key : ∀ {α : Type} (X : Option α) (Y : α), gated all fr o X Y = gate (getV t fr) w X (some Y) := fun X Y => by unfold gated; rw [hg]; simp only; rw [ht]
      unfold gate at h
      split at h
      · rename_i b hb
        split at h
        · rename_i hw
          exact .inl ⟨fun X Y => by rw [key]; unfold gate; rw [hb]; simp only; rw [if_pos hw], h⟩
        · rename_i hw
          exact .inr ⟨fun X Y => by rw [key]; unfold gate; rw [hb]; simp only; rw [if_neg hw], by rw [hg]; simp, h⟩
      · rename_i hb
        exact .inr ⟨fun X Y => by rw [key]; unfold gate; rw [hb], by rw [hg]; simp, h⟩
      · cases h
    · cases h
theorem whenB_some {R : Type} {p : Bool} {x : Option R} {res : R} (h : whenB p x = some res) : p = true ∧ x = some res := by
  unfold whenB at h
  cases p with
  | true => exact ⟨rfl, h⟩
  | false => cases h
mutual
theorem eqb_eq : ∀ {x y : AV}, AV.eqb x y = true → x = y
  | .undef, y, h => by cases y <;> first | rfl | cases h
  | .bool a, y, h => by cases y <;> first | (simp [AV.eqb] at h; subst h; rfl) | cases h
  | .int k a, y, h => by cases y <;> first | (simp [AV.eqb] at h; obtain ⟨rfl, rfl⟩ := h; rfl) | cases h
  | .str a, y, h => by cases y <;> first | (simp [AV.eqb] at h; subst h; rfl) | cases h
  | .nilPtr, y, h => by cases y <;> first | rfl | cases h
  | .ptr i o, y, h => by cases y <;> first | (simp [AV.eqb] at h; obtain ⟨rfl, rfl⟩ := h; rfl) | cases h
  | .rptr c o, .rptr c' o', h => by simp only [AV.eqb, Bool.and_eq_true] at h; rw [eqbL_eq h.1, Nat.eq_of_beq_eq_true h.2]
  | .list r o, .list r' o', h => by simp only [AV.eqb, Bool.and_eq_true, decide_eq_true_eq] at h; rw [eqbR_eq h.1, h.2]
  | .slc i o l s, y, h => by cases y <;> first | (simp [AV.eqb] at h; obtain ⟨⟨⟨rfl, rfl⟩, rfl⟩, rfl⟩ := h; rfl) | cases h
  | .nilMap, y, h => by cases y <;> first | rfl | cases h
  | .map i, y, h => by cases y <;> first | (simp [AV.eqb] at h; subst h; rfl) | cases h
  | .nilFunc, y, h => by cases y <;> first | rfl | cases h
  | .func f a b, .func f' a' b', h => by simp only [AV.eqb, Bool.and_eq_true, decide_eq_true_eq] at h; rw [h.1.1, eqbL_eq h.1.2, eqbL_eq h.2]
  | .nilIface, y, h => by cases y <;> first | rfl | cases h
  | .iface t v, .iface t' v', h => by simp only [AV.eqb, Bool.and_eq_true] at h; rw [Nat.eq_of_beq_eq_true h.1, eqb_eq h.2]
  | .agg c, .agg c', h => by simp only [AV.eqb] at h; rw [eqbL_eq h]
  | .tuple c, .tuple c', h => by simp only [AV.eqb] at h; rw [eqbL_eq h]
theorem eqbL_eq : ∀ {x y : List AV}, eqbL x y = true → x = y
  | [], [], _ => rfl
  | a :: l, b :: l', h => by simp only [eqbL, Bool.and_eq_true] at h; rw [eqb_eq h.1, eqbL_eq h.2]
theorem eqbR_eq : ∀ {x y : List (List AV)}, eqbR x y = true → x = y
  | [], [], _ => rfl
  | a :: l, b :: l', h => by simp only [eqbR, Bool.and_eq_true] at h; rw [eqbL_eq h.1, eqbR_eq h.2]
end
mutual
theorem eqb_self : ∀ x : AV, AV.eqb x x = true
  | .undef | .nilPtr | .nilMap | .nilFunc | .nilIface => rfl
  | .bool a => by simp [AV.eqb]
  | .int k a => by simp [AV.eqb]
  | .str a => by simp [AV.eqb]
  | .ptr i o => by simp [AV.eqb]
  | .rptr c o => by simp [AV.eqb, eqbL_self c]
  | .list r o => by simp [AV.eqb, eqbR_self r]
  | .slc i o l s => by simp [AV.eqb]
  | .map i => by simp [AV.eqb]
  | .func f a b => by simp [AV.eqb, eqbL_self a, eqbL_self b]
  | .iface t v => by simp [AV.eqb, eqb_self v]
  | .agg c => by simp [AV.eqb, eqbL_self c]
  | .tuple c => by simp [AV.eqb, eqbL_self c]
theorem eqbL_self : ∀ x : List AV, eqbL x x = true
  | [] => rfl
  | a :: l => by simp [eqbL, eqb_self a, eqbL_self l]
theorem eqbR_self : ∀ x : List (List AV), eqbR x x = true
  | [] => rfl
  | a :: l => by simp [eqbR, eqbL_self a, eqbR_self l]
end
theorem eqO_eq {x : Option AV} {v : AV} (h : eqO x v = true) : x = some v := by
  cases x with
  | none => cases h
  | some w => rw [eqb_eq h]
theorem chkBack_some {R : Type} {b : Nat} {p : H → Bool} {res : R} : ∀ {l : List (Nat × H)} {k : Option R}, chkBack b p l k = some res → (∀ x ∈ l, b.testBit x.1 = false → p x.2 = true) ∧ k = some res
  | [], k, h => ⟨by simp, h⟩
  | x :: l, k, h => by
    unfold chkBack at h
    cases hb : b.testBit x.1 with
    | true =>
      rw [hb] at h
      obtain ⟨h1, h2⟩ := chkBack_some h
      exact ⟨fun y hy hf => by rcases List.mem_cons.1 hy with rfl | hy; rw [hb] at hf; cases hf; exact h1 y hy hf, h2⟩
    | false =>
      rw [hb] at h
      obtain ⟨h0, h⟩ := whenB_some h
      obtain ⟨h1, h2⟩ := chkBack_some h
      exact ⟨fun y hy hf => by rcases List.mem_cons.1 hy with rfl | hy; exact h0; exact h1 y hy hf, h2⟩
theorem chkFwd_some {R : Type} {b : Nat} {h' : H} {res : R} : ∀ {l : List (Nat × (H → Bool))} {k : Option R}, chkFwd b h' l k = some res → (∀ x ∈ l, b.testBit x.1 = false → x.2 h' = true) ∧ k = some res
  | [], k, h => ⟨by simp, h⟩
  | x :: l, k, h => by
    unfold chkFwd at h
    cases hb : b.testBit x.1 with
    | true =>
      rw [hb] at h
      obtain ⟨h1, h2⟩ := chkFwd_some h
      exact ⟨fun y hy hf => by rcases List.mem_cons.1 hy with rfl | hy; rw [hb] at hf; cases hf; exact h1 y hy hf, h2⟩
    | false =>
      rw [hb] at h
      obtain ⟨h0, h⟩ := whenB_some h
      obtain ⟨h1, h2⟩ := chkFwd_some h
      exact ⟨fun y hy hf => by rcases List.mem_cons.1 hy with rfl | hy; exact h0; exact h1 y hy hf, h2⟩
theorem cls_val (hk : kindOf A r i o.op = .val) : clsOf A r i o.op ≤ 1 := by
  unfold clsOf
  rw [hk]
  simp only
  split <;> omega
def Still (call : Cl) (f : FuncId) : Prop := ∀ args h e h', call f args h = some (e, h') → h' = h ∧ ∀ l, call f args (h ++ l) = some (e, h ++ l)
theorem gated_map {α : Type} {x x' : Option α} {y z : α} (h : gated all fr o x y = some z) (hx : ∀ z, x = some z → x' = some z) : gated all fr o x' y = some z := by
  unfold gated at *
  split
  · rename_i hg; rw [hg] at h; exact hx _ h
  · rename_i j w hg
    rw [hg] at h
    simp only at h
    split
    · rename_i t ht
      rw [ht] at h
      simp only at h
      unfold gate at *
      split
      · rename_i b hb
        rw [hb] at h
        simp only at h
        split
        · rename_i hw; rw [if_pos hw] at h; exact hx _ h
        · rename_i hw; rw [if_neg hw] at h; exact h
      · rename_i hb; rw [hb] at h; exact h
      · rename_i h1 h2
        split at h
        · rename_i hb; exact absurd hb (h1 _)
        · rename_i hb; exact absurd hb h2
        · cases h
    · rename_i ht
      rw [ht] at h
      exact h
theorem gated_or {α : Type} {x : Option α} {y z : α} (h : gated all fr o x y = some z) : x = some z ∨ z = y := by
  unfold gated at h
  split at h
  · exact .inl h
  · split at h
    · unfold gate at h
      split at h
      · split at h
        · exact .inl h
        · cases h; exact .inr rfl
      · cases h; exact .inr rfl
      · cases h
    · cases h
theorem rowsOf_more {s : Nat} {b : Bool} {x : AV} {rows : List (List AV)} (he : rowsOf s b h x = some rows) : rowsOf s b (h ++ l) x = some rows := by
  unfold rowsOf at he ⊢
  split at he
  · exact he
  · split at he
    · rename_i hid; simp only [obj_more hid]; exact he
    · cases he
  · exact he
  · cases he
theorem valOp_more' {op : Op} {v : AV} (he : valOp P A r i fr ob h op = some v) : valOp P A r i fr ob (h ++ l) op = some v := by
  by_cases hp : plainOp op = true
  · exact valOp_more hp he
  · cases op <;> try (simp [plainOp] at hp; done)
    rename_i c
    obtain ⟨callee, args, tys⟩ := c
    cases callee with
    | value f => simp [plainOp] at hp
    | invoke r m => simp [plainOp] at hp
    | builtin b =>
      cases b <;> first | (simp [plainOp] at hp; done) | skip
      simp only [valOp] at he ⊢
      split at he
      · split at he
        · rename_i e het
          split at he
          · rename_i hc
            rw [if_pos hc]
            unfold appendTo at he ⊢
            split at he
            · rename_i z hz
              split at he
              · rename_i hzz
                rw [if_pos hzz]
                unfold apSlice at he ⊢
                split at he
                · simp only [Option.bind_eq_some_iff] at he ⊢
                  obtain ⟨more, h1, h2⟩ := he
                  exact ⟨more, rowsOf_more h1, h2⟩
                · cases he
              · cases he
            · cases he
          · cases he
        · cases he
      · cases he
theorem valOp_still {op : Op} (hk : kindOf A r i op = .val) (hc : clsOf A r i op = 0) (h2 : H) : valOp P A r i fr ob h op = valOp P A r i fr ob h2 op := by
  unfold clsOf at hc
  rw [hk] at hc
  simp only at hc
  cases op <;> first | rfl | (simp at hc; done) | skip
  rename_i c
  obtain ⟨callee, args, tys⟩ := c
  cases callee with
  | value f => simp at hc
  | invoke r m => simp at hc
  | builtin b => cases b <;> first | rfl | (simp at hc; done)
theorem stp_still (hc : clsOf A r i o.op = 0) {v : AV} {h' : H} (he : stp P A call r all ob i o fr h = some (v, h')) : h' = h ∧ ∀ h2, stp P A call r all ob i o fr h2 = some (v, h2) := by
  cases hk : kindOf A r i o.op with
  | tot =>
    unfold stp stepQ at *
    rw [hk] at he ⊢
    simp only at he ⊢
    split at he
    · cases he; exact ⟨rfl, fun _ => rfl⟩
    · simp only [Option.bind_eq_some_iff] at he ⊢
      obtain ⟨a, h1, h2⟩ := he
      cases h2
      exact ⟨rfl, fun _ => ⟨_, h1, rfl⟩⟩
    · cases he
  | val =>
    unfold stp stepQ at *
    rw [hk] at he ⊢
    simp only [Option.bind_eq_some_iff] at he ⊢
    obtain ⟨a, h1, h2⟩ := he
    cases h2
    exact ⟨rfl, fun h2 => ⟨_, by rw [← valOp_still (h := h) hk hc h2]; exact h1, rfl⟩⟩
  | new => simp [clsOf, hk] at hc
  | heap => simp [clsOf, hk] at hc
  | pan x => simp [clsOf, hk] at hc
  | dfr f args => simp [clsOf, hk] at hc
  | call f args =>
    simp only [clsOf, hk] at hc
    split at hc
    · cases hq : A.q.contains _ <;> rw [hq] at hc <;> simp at hc
    · cases hc
theorem stp_reader (hq : ∀ f ∈ A.q, Still call f) (hc : clsOf A r i o.op = 1) {v : AV} {h' : H} (he : stp P A call r all ob i o fr h = some (v, h')) : h' = h ∧ ∀ l, stp P A call r all ob i o fr (h ++ l) = some (v, h ++ l) := by
  cases hk : kindOf A r i o.op with
  | tot => simp [clsOf, hk] at hc
  | new => simp [clsOf, hk] at hc
  | heap => simp [clsOf, hk] at hc
  | pan x => simp [clsOf, hk] at hc
  | dfr f args => simp [clsOf, hk] at hc
  | val =>
    unfold stp stepQ at *
    rw [hk] at he ⊢
    simp only [Option.bind_eq_some_iff] at he ⊢
    obtain ⟨a, h1, h2⟩ := he
    cases h2
    exact ⟨rfl, fun l => ⟨_, gated_map h1 fun z hz => valOp_more' hz, rfl⟩⟩
  | call f args =>
    simp only [clsOf, hk] at hc
    split at hc
    · rename_i g
      cases hg : A.q.contains g with
      | false => rw [hg] at hc; simp at hc
      | true =>
        have hst := hq g (by simpa using hg)
        unfold stp stepQ at *
        rw [hk] at he ⊢
        simp only [Option.bind_eq_some_iff] at he ⊢
        obtain ⟨⟨e, hp⟩, h1, h2⟩ := he
        cases e with
        | pan w => cases h2
        | ret w =>
          cases h2
          have key : ∀ l, True → hp = h ∧ gated all fr o (callVal call (h ++ l) (vOf fr (.func g)) (callArgs A (.func g) fr args)) (.ret (.tuple []), h ++ l) = some (.ret v, h ++ l) := by
            intro l _
            unfold gated at *
            have cv : ∀ e h', callVal call h (vOf fr (.func g)) (callArgs A (.func g) fr args) = some (e, h') → h' = h ∧ callVal call (h ++ l) (vOf fr (.func g)) (callArgs A (.func g) fr args) = some (e, h ++ l) := by
              intro e h' hcv
              simp only [callVal, vOf] at hcv ⊢
              exact ⟨(hst _ _ _ _ hcv).1, (hst _ _ _ _ hcv).2 l⟩
            split
            · rename_i hg; rw [hg] at h1; exact cv _ _ h1
            · rename_i j w hg
              rw [hg] at h1
              simp only at h1
              split
              · rename_i t ht
                rw [ht] at h1
                simp only at h1
                unfold gate at *
                split
                · rename_i b hb
                  rw [hb] at h1
                  simp only at h1
                  split
                  · rename_i hw; rw [if_pos hw] at h1; exact cv _ _ h1
                  · rename_i hw; rw [if_neg hw] at h1; cases h1; exact ⟨rfl, rfl⟩
                · rename_i hb; rw [hb] at h1; cases h1; exact ⟨rfl, rfl⟩
                · rename_i h3 h4
                  split at h1
                  · rename_i hb; exact absurd hb (h3 _)
                  · rename_i hb; exact absurd hb h4
                  · cases h1
              · rename_i ht
                rw [ht] at h1
                cases h1
          exact ⟨(key [] trivial).1, fun l => ⟨_, (key l trivial).2, rfl⟩⟩
    · cases hc
theorem stp_new (hc : clsOf A r i o.op = 2) {v : AV} {h' : H} (he : stp P A call r all ob i o fr h = some (v, h')) : ∃ l, h' = h ++ l := by
  have nw : ∀ v h', newOp P h o.op = some (v, h') → ∃ l, h' = h ++ l := by
    intro v h' hn
    unfold newOp at hn
    split at hn
    · split at hn
      · split at hn
        · cases hn; exact ⟨_, rfl⟩
        · cases hn
      · cases hn
    · cases hn; exact ⟨_, rfl⟩
    · cases hn
  cases hk : kindOf A r i o.op with
  | tot => simp [clsOf, hk] at hc
  | heap => simp [clsOf, hk] at hc
  | pan x => simp [clsOf, hk] at hc
  | dfr f args => simp [clsOf, hk] at hc
  | val => simp only [clsOf, hk] at hc; split at hc <;> cases hc
  | call f args =>
    simp only [clsOf, hk] at hc
    split at hc
    · cases hq : A.q.contains _ <;> rw [hq] at hc <;> simp at hc
    · cases hc
  | new =>
    unfold stp stepQ at he
    rw [hk] at he
    simp only at he
    split at he
    · rename_i p hg hp
      cases he
      exact nw _ _ hp
    · simp only [Option.bind_eq_some_iff] at he
      obtain ⟨p, h1, h2⟩ := he
      cases h2
      rcases gated_or h1 with h1 | h1
      · exact nw _ _ h1
      · subst h1; exact ⟨[], by simp⟩
    · cases he
theorem stepC {R : Type} (hq : ∀ f ∈ A.q, Still call f) {bs : List Nat} {k : List (Nat × AV) → List (Nat × Nat) → H → Option R} {res : R} {rest : List (Nat × Oper)} {pr : List (Nat × (H → Bool))} {pw : List (Nat × H)} (he : regionQC P A call r all bs k ((i, o) :: rest) pr pw fr ob h = some res) :
    ∃ v h' pr' pw', stp P A call r all ob i o fr h = some (v, h') ∧ regionQC P A call r all bs k rest pr' pw' (putV A.nt o.dst v fr) (putM o.dst (maskQ P A r i ob o) (offQ A r i ob o.op)) h' = some res ∧
      (clsOf A r i o.op = 1 → ∀ x ∈ pw, (befAt bs i).testBit x.1 = false → stp P A call r all ob i o fr x.2 = some (v, x.2)) ∧
      (clsOf A r i o.op = 3 → h' ≠ h → ∀ x ∈ pr, (befAt bs i).testBit x.1 = false → x.2 h' = true) ∧
      (∀ x ∈ pr, x ∈ pr') ∧ (∀ x ∈ pw, x ∈ pw') ∧
      (clsOf A r i o.op = 1 → (∀ h2, stp P A call r all ob i o fr h2 = some (v, h2)) ∨ ∃ p, (i, p) ∈ pr' ∧ ∀ h2, p h2 = true → stp P A call r all ob i o fr h2 = some (v, h2)) ∧
      (2 ≤ clsOf A r i o.op → h' ≠ h → (i, h) ∈ pw') := by
  unfold regionQC at he
  cases hk : kindOf A r i o.op with
  | tot =>
    rw [hk] at he
    simp only [strict_eq] at he
    have hc : clsOf A r i o.op = 0 := by simp [clsOf, hk]
    rcases gateK_or he with ⟨hx, he⟩ | ⟨hx, hg, he⟩
    · rw [bindA_eq, Option.bind_eq_some_iff] at he
      obtain ⟨v, hv, he⟩ := he
      refine ⟨v, h, pr, pw, ?_, (by have h5 := withV_plain he; exact h5), fun e => absurd e (by omega), fun e => absurd e (by omega), fun _ h => h, fun _ h => h, fun e => absurd e (by omega), fun e => absurd e (by omega)⟩
      unfold stp stepQ
      rw [hk]
      simp only
      split
      · rename_i v' _ hv'; rw [hv] at hv'; cases hv'; rfl
      · rw [hx, hv]; rfl
      · rename_i hv'; rw [hv] at hv'; cases hv'
    · refine ⟨.tuple [], h, pr, pw, ?_, he, fun e => absurd e (by omega), fun e => absurd e (by omega), fun _ h => h, fun _ h => h, fun e => absurd e (by omega), fun e => absurd e (by omega)⟩
      unfold stp stepQ
      rw [hk]
      simp only
      split
      · rename_i h1 _; exact absurd h1 hg
      · rw [hx]; rfl
      · rename_i h1 _; exact absurd h1 hg
  | new =>
    rw [hk] at he
    simp only [strict_eq] at he
    have hc : clsOf A r i o.op = 2 := by simp [clsOf, hk]
    rcases gateK_or he with ⟨hx, he⟩ | ⟨hx, hg, he⟩
    · rw [bindA_eq, Option.bind_eq_some_iff] at he
      obtain ⟨⟨v, h'⟩, hv, he⟩ := he
      refine ⟨v, h', pr, _, ?_, he, fun e => absurd e (by omega), fun e => absurd e (by omega), fun _ h => h, fun _ h => List.mem_cons_of_mem _ h, fun e => absurd e (by omega), fun _ _ => List.mem_cons_self⟩
      unfold stp stepQ
      rw [hk]
      simp only
      split
      · rename_i v' _ hv'; rw [hv] at hv'; cases hv'; rfl
      · rw [hx, hv]; rfl
      · rename_i hv'; rw [hv] at hv'; cases hv'
    · refine ⟨.tuple [], h, pr, pw, ?_, he, fun e => absurd e (by omega), fun e => absurd e (by omega), fun _ h => h, fun _ h => h, fun e => absurd e (by omega), fun _ hn => absurd rfl hn⟩
      unfold stp stepQ
      rw [hk]
      simp only
      split
      · rename_i h1 _; exact absurd h1 hg
      · rw [hx]; rfl
      · rename_i h1 _; exact absurd h1 hg
  | val =>
    rw [hk] at he
    simp only [strict_eq] at he
    have hc := cls_val hk
    rcases gateK_or he with ⟨hx, he⟩ | ⟨hx, hg, he⟩
    · rw [bindA_eq, Option.bind_eq_some_iff] at he
      obtain ⟨v, hv, he⟩ := he
      have run : ∀ h2, valOp P A r i fr ob h2 o.op = some v → stp P A call r all ob i o fr h2 = some (v, h2) := by
        intro h2 h3
        unfold stp stepQ
        rw [hk]
        simp only
        rw [hx, h3]; rfl
      cases hb : Nat.beq (clsOf A r i o.op) 1 with
      | true =>
        rw [hb] at he
        obtain ⟨c1, he⟩ := chkBack_some he
        refine ⟨v, h, _, pw, run h hv, (by have h5 := withV_plain he; exact h5), fun _ x hx hf => run _ (eqO_eq (c1 x hx hf)), fun e => absurd e (by omega), fun _ h => List.mem_cons_of_mem _ h, fun _ h => h, fun _ => .inr ⟨_, List.mem_cons_self, fun h2 h3 => run h2 (eqO_eq h3)⟩, fun e => absurd e (by omega)⟩
      | false =>
        rw [hb] at he
        dsimp only [pickJ] at he
        have hne : clsOf A r i o.op ≠ 1 := fun e => by rw [e] at hb; simp at hb
        exact ⟨v, h, pr, pw, run h hv, (by have h5 := withV_plain he; exact h5), fun e => absurd e hne, fun e => absurd e (by omega), fun _ h => h, fun _ h => h, fun e => absurd e hne, fun e => absurd e (by omega)⟩
    · have run : ∀ h2, stp P A call r all ob i o fr h2 = some (.tuple [], h2) := by
        intro h2
        unfold stp stepQ
        rw [hk]
        simp only
        rw [hx]; rfl
      exact ⟨.tuple [], h, pr, pw, run h, he, fun _ x _ _ => run _, fun e => absurd e (by omega), fun _ h => h, fun _ h => h, fun _ => .inl run, fun e => absurd e (by omega)⟩
  | heap =>
    rw [hk] at he
    simp only [strict_eq] at he
    have hc : clsOf A r i o.op = 3 := by simp [clsOf, hk]
    rcases gateK_or he with ⟨hx, he⟩ | ⟨hx, hg, he⟩
    · rw [bindA_eq, Option.bind_eq_some_iff] at he
      obtain ⟨⟨v, h'⟩, hv, he⟩ := he
      obtain ⟨c1, he⟩ := chkFwd_some he
      refine ⟨v, h', pr, _, ?_, (by have h5 := withV_plain he; exact h5), fun e => absurd e (by omega), fun _ _ x hx hf => c1 x hx hf, fun _ h => h, fun _ h => List.mem_cons_of_mem _ h, fun e => absurd e (by omega), fun _ _ => List.mem_cons_self⟩
      unfold stp stepQ
      rw [hk]
      simp only
      rw [hx, hv]; rfl
    · refine ⟨.tuple [], h, pr, pw, ?_, he, fun e => absurd e (by omega), fun _ hn => absurd rfl hn, fun _ h => h, fun _ h => h, fun e => absurd e (by omega), fun _ hn => absurd rfl hn⟩
      unfold stp stepQ
      rw [hk]
      simp only
      rw [hx]; rfl
  | call f args =>
    rw [hk] at he
    simp only [strict_eq] at he
    have hc : clsOf A r i o.op = 1 ∨ clsOf A r i o.op = 3 := by
      unfold clsOf
      rw [hk]
      simp only
      split
      · cases A.q.contains _ <;> simp
      · exact .inr rfl
    rcases gateK_or he with ⟨hx, he⟩ | ⟨hx, hg, he⟩
    · rw [bindA_eq, Option.bind_eq_some_iff] at he
      obtain ⟨⟨e, h'⟩, hv, he⟩ := he
      cases e with
      | pan x => cases he
      | ret v =>
        simp only [retOr] at he
        have run : ∀ h2 h3, callVal call h2 (vOf fr f) (callArgs A f fr args) = some (.ret v, h3) → stp P A call r all ob i o fr h2 = some (v, h3) := by
          intro h2 h3 h4
          unfold stp stepQ
          rw [hk]
          simp only
          rw [hx, h4]; rfl
        have rdrun : clsOf A r i o.op = 1 → ∀ h2, rdCall A call f args fr v h2 = true → stp P A call r all ob i o fr h2 = some (v, h2) := by
          intro h1 h2 hrd
          unfold rdCall eqE at hrd
          split at hrd
          · rename_i x w h3 hx3
            have hv3 := eqb_eq hrd
            subst hv3
            have hst : h3 = h2 := by
              have hg : ∃ g, f = .func g ∧ A.q.contains g = true := by
                unfold clsOf at h1
                rw [hk] at h1
                simp only at h1
                cases f with
                | func g =>
                  cases hqq : A.q.contains g with
                  | false => simp only at h1; rw [hqq] at h1; simp at h1
                  | true => exact ⟨g, rfl, hqq⟩
                | tmp t => simp at h1
                | const c => simp at h1
                | global g => simp at h1
              obtain ⟨g, rfl, hqq⟩ := hg
              simp only [callVal, vOf] at hx3
              exact (hq g (by simpa using hqq) _ _ _ _ hx3).1
            subst hst
            exact run _ _ hx3
          · cases hrd
        cases hb : Nat.beq (clsOf A r i o.op) 1 with
        | true =>
          have h1 := Nat.eq_of_beq_eq_true hb
          rw [hb] at he
          obtain ⟨c1, he⟩ := chkBack_some he
          exact ⟨v, h', _, pw, run h h' hv, (by have h5 := withV_plain he; exact h5), fun _ x hx hf => rdrun h1 _ (c1 x hx hf), fun e => absurd e (by omega), fun _ h => List.mem_cons_of_mem _ h, fun _ h => h, fun _ => .inr ⟨_, List.mem_cons_self, fun h2 h3 => rdrun h1 h2 h3⟩, fun e => absurd e (by omega)⟩
        | false =>
          rw [hb] at he
          dsimp only [pickJ] at he
          have hne : clsOf A r i o.op ≠ 1 := fun e => by rw [e] at hb; simp at hb
          obtain ⟨c1, he⟩ := chkFwd_some he
          exact ⟨v, h', pr, _, run h h' hv, (by have h5 := withV_plain he; exact h5), fun e => absurd e hne, fun _ _ x hx hf => c1 x hx hf, fun _ h => h, fun _ h => List.mem_cons_of_mem _ h, fun e => absurd e hne, fun _ _ => List.mem_cons_self⟩
    · have run : ∀ h2, stp P A call r all ob i o fr h2 = some (.tuple [], h2) := by
        intro h2
        unfold stp stepQ
        rw [hk]
        simp only
        rw [hx]; rfl
      exact ⟨.tuple [], h, pr, pw, run h, he, fun _ x _ _ => run _, fun _ hn => absurd rfl hn, fun _ h => h, fun _ h => h, fun _ => .inl run, fun _ hn => absurd rfl hn⟩
  | pan x => rw [hk] at he; cases he
  | dfr f args => rw [hk] at he; cases he
end
end Go.Ve

namespace Go.Ve
open Go
def befOne (acc : List Nat) (o : Oper) : Nat := (directs o).foldl (fun m j => Nat.lor m (Nat.lor (Nat.shiftLeft 1 j) ((acc[j]?).getD 0))) 0
theorem befM_spec : ∀ (l : List Oper) (acc : List Nat), ∃ rs, befM l acc = acc ++ rs ∧ rs.length = l.length ∧ ∀ (j : Nat) o, l[j]? = some o → rs[j]? = some (befOne (acc ++ rs.take j) o)
  | [], acc => ⟨[], by simp [befM], rfl, by simp⟩
  | o :: l, acc => by
    obtain ⟨rs, h1, h2, h3⟩ := befM_spec l (acc ++ [befOne acc o])
    refine ⟨befOne acc o :: rs, ?_, by simp [h2], ?_⟩
    · show befM l (acc ++ [befOne acc o]) = _
      rw [h1]; simp
    · intro j p hp
      cases j with
      | zero => simp at hp; subst hp; simp
      | succ j =>
        simp only [List.getElem?_cons_succ] at hp ⊢
        rw [h3 j p hp]
        simp
theorem befOne_bit {acc : List Nat} {o : Oper} {i : Nat} (h : (befOne acc o).testBit i = true) : ∃ j ∈ directs o, i = j ∨ ((acc[j]?).getD 0).testBit i = true := by
  unfold befOne at h
  have key : ∀ (l : List Nat) (m : Nat), (l.foldl (fun m j => Nat.lor m (Nat.lor (Nat.shiftLeft 1 j) ((acc[j]?).getD 0))) m).testBit i = true → m.testBit i = true ∨ ∃ j ∈ l, i = j ∨ ((acc[j]?).getD 0).testBit i = true := by
    intro l
    induction l with
    | nil => intro m h; exact .inl h
    | cons j l ih =>
      intro m h
      rcases ih _ h with h | ⟨j', h1, h2⟩
      · have h' : (m ||| ((1 <<< j) ||| (acc[j]?).getD 0)).testBit i = true := h
        rw [Nat.testBit_or, Nat.testBit_or, Nat.one_shiftLeft, Nat.testBit_two_pow] at h'
        simp only [Bool.or_eq_true, decide_eq_true_eq] at h'
        rcases h' with h' | h' | h'
        · exact .inl h'
        · exact .inr ⟨j, by simp, .inl h'.symm⟩
        · exact .inr ⟨j, by simp, .inr h'⟩
      · exact .inr ⟨j', by simp [h1], h2⟩
  rcases key _ _ h with h | h
  · simp at h
  · exact h
def bef (all : List Oper) (k i : Nat) : Bool := (((befM all [])[k]?).getD 0).testBit i
theorem bef_closed {all : List Oper} {S : Nat → Prop} (hS : ∀ j o, S j → all[j]? = some o → ∀ i ∈ directs o, S i) : ∀ k, S k → ∀ i, bef all k i = true → S i := by
  obtain ⟨rs, h1, h2, h3⟩ := befM_spec all []
  simp only [List.nil_append] at h1 h3
  intro k
  induction k using Nat.strongRecOn with
  | ind k ih =>
    intro hk i hi
    unfold bef at hi
    rw [h1] at hi
    cases ho : all[k]? with
    | none =>
      rw [List.getElem?_eq_none (by rw [h2]; exact List.getElem?_eq_none_iff.1 ho)] at hi
      simp at hi
    | some o =>
      rw [h3 k o ho] at hi
      simp only [Option.getD_some] at hi
      obtain ⟨j, hj, hij⟩ := befOne_bit hi
      have hSj := hS k o hk ho j hj
      rcases hij with rfl | hij
      · exact hSj
      · by_cases hjk : j < k
        · refine ih j hjk hSj i ?_
          unfold bef
          rw [h1]
          rw [List.getElem?_take_of_lt hjk] at hij
          exact hij
        · rw [List.getElem?_eq_none (by simp; omega)] at hij
          simp at hij
section
variable {P : Program} {A : FAnn} {r : Nat} {obf : Nat → List (Nat × Nat)} {call : Cl} {all : List Oper}
structure Trace (P : Program) (A : FAnn) (call : Cl) (r : Nat) (all : List Oper) (obf : Nat → List (Nat × Nat)) (s : Nat) (l : List Oper) (fr : List (Nat × AV)) (h : H) (fr1 : List (Nat × AV)) (h1 : H) (V : Nat → AV) (Hp : Nat → H) (Fr : Nat → List (Nat × AV)) : Prop where
  f0 : Fr s = fr
  h0 : Hp s = h
  step : ∀ (j : Nat) o, l[j]? = some o → stp P A call r all (obf (s + j)) (s + j) o (Fr (s + j)) (Hp (s + j)) = some (V (s + j), Hp (s + j + 1)) ∧ Fr (s + j + 1) = putV A.nt o.dst (V (s + j)) (Fr (s + j))
  fn : Fr (s + l.length) = fr1
  hn : Hp (s + l.length) = h1
structure Looks (P : Program) (A : FAnn) (call : Cl) (r : Nat) (all : List Oper) (obf : Nat → List (Nat × Nat)) (V : Nat → AV) (Hp : Nat → H) (Fr : Nat → List (Nat × AV)) (lo hi : Nat) : Prop where
  back : ∀ (j i : Nat) o p, lo ≤ j → j < i → i < hi → all[i]? = some o → all[j]? = some p → clsOf A r i o.op = 1 → 2 ≤ clsOf A r j p.op → Hp (j + 1) ≠ Hp j → bef all i j = false → stp P A call r all (obf i) i o (Fr i) (Hp j) = some (V i, Hp j)
  fwd : ∀ (i j : Nat) o p, lo ≤ i → i < j → j < hi → all[i]? = some o → all[j]? = some p → clsOf A r i o.op = 1 → clsOf A r j p.op = 3 → Hp (j + 1) ≠ Hp j → bef all j i = false → stp P A call r all (obf i) i o (Fr i) (Hp (j + 1)) = some (V i, Hp (j + 1))
theorem traceC_of {R : Type} (hq : ∀ f ∈ A.q, Still call f) {ob0 : List (Nat × Nat)} {k : List (Nat × AV) → List (Nat × Nat) → H → Option R} {res : R} : ∀ (l : List Oper) (s : Nat) (pr : List (Nat × (H → Bool))) (pw : List (Nat × H)) (fr : List (Nat × AV)) (h : H), (∀ j : Nat, l[j]? = all[s + j]?) →
    regionQC P A call r all (befM all []) k (enum s l) pr pw fr (obN P A r all ob0 s) h = some res → ∃ V Hp Fr fr1 h1, Trace P A call r all (obN P A r all ob0) s l fr h fr1 h1 V Hp Fr ∧ k fr1 (obN P A r all ob0 (s + l.length)) h1 = some res ∧ Looks P A call r all (obN P A r all ob0) V Hp Fr s (s + l.length) ∧
      (∀ (i : Nat) o x, s ≤ i → i < s + l.length → all[i]? = some o → clsOf A r i o.op = 1 → x ∈ pw → bef all i x.1 = false → stp P A call r all (obN P A r all ob0 i) i o (Fr i) x.2 = some (V i, x.2)) ∧
      (∀ (j : Nat) p x, s ≤ j → j < s + l.length → all[j]? = some p → clsOf A r j p.op = 3 → Hp (j + 1) ≠ Hp j → x ∈ pr → bef all j x.1 = false → x.2 (Hp (j + 1)) = true)
  | [], s, pr, pw, fr, h, hl, he => ⟨fun _ => .undef, fun _ => h, fun _ => fr, fr, h, ⟨rfl, rfl, by simp, rfl, rfl⟩, he, ⟨fun j i o p a b c => by simp at c; omega, fun i j o p a b c => by simp at c; omega⟩, fun i o x a b => by simp at b; omega, fun j p x a b => by simp at b; omega⟩
  | o :: l, s, pr, pw, fr, h, hl, he => by
    have hos : all[s]? = some o := by have := hl 0; simpa using this.symm
    simp only [enum] at he
    obtain ⟨v, h', pr', pw', hs, he, g1, g2, g3, g4, g5, g6⟩ := stepC hq he
    have hob : putM o.dst (maskQ P A r s (obN P A r all ob0 s) o) (offQ A r s (obN P A r all ob0 s) o.op) = obN P A r all ob0 (s + 1) := by
      simp only [obN, hos]
    rw [hob] at he
    obtain ⟨V', Hp', Fr', fr1, h1, t, hk, lk, c1, c2⟩ := traceC_of hq l (s + 1) pr' pw' _ _ (fun j => by have := hl (j + 1); simp only [List.getElem?_cons_succ] at this; rw [this]; congr 1; omega) he
    have e1 := t.h0
    have e2 := t.f0
    have len : s + 1 + l.length = s + (o :: l).length := by simp; omega
    have vi : ∀ i, i ≠ s → (if i = s then v else V' i) = V' i := fun i hi => if_neg hi
    have hi_ : ∀ i, i ≠ s → (if i = s then h else Hp' i) = Hp' i := fun i hi => if_neg hi
    have fi : ∀ i, i ≠ s → (if i = s then fr else Fr' i) = Fr' i := fun i hi => if_neg hi
    refine ⟨fun i => if i = s then v else V' i, fun i => if i = s then h else Hp' i, fun i => if i = s then fr else Fr' i, fr1, h1, ⟨by simp, by simp, ?_, ?_, ?_⟩, ?_, ⟨?_, ?_⟩, ?_, ?_⟩
    · intro j p hp
      cases j with
      | zero =>
        simp only [List.getElem?_cons_zero, Option.some.injEq] at hp
        subst hp
        simp [e1, e2, hs]
      | succ j =>
        simp only [List.getElem?_cons_succ] at hp
        have := t.step j p hp
        rw [show s + 1 + j = s + (j + 1) by omega] at this
        simpa [show s + (j + 1) ≠ s by omega, show s + (j + 1) + 1 ≠ s by omega] using this
    · have := t.fn
      rw [len] at this
      rw [fi _ (by simp)]
      exact this
    · have := t.hn
      rw [len] at this
      rw [hi_ _ (by simp)]
      exact this
    · rw [← len]; exact hk
    · intro j i p q a b c hp hq k1 k2 k3 k4
      rw [fi i (by omega), vi i (by omega)]
      rw [hi_ (j + 1) (by omega)] at k3
      by_cases hj : j = s
      · subst hj
        simp only [if_true] at k3 ⊢
        rw [hos] at hq
        cases hq
        rw [e1] at k3
        exact c1 i p (j, h) (by omega) (by omega) hp k1 (g6 k2 k3) k4
      · rw [hi_ j hj] at k3 ⊢
        exact lk.back j i p q (by omega) b (by omega) hp hq k1 k2 k3 k4
    · intro i j p q a b c hp hq k1 k2 k3 k4
      rw [hi_ (j + 1) (by omega)] at k3 ⊢
      rw [hi_ j (by omega)] at k3
      by_cases hj : i = s
      · subst hj
        rw [hos] at hp
        cases hp
        simp only [if_true]
        rcases g5 k1 with hall | ⟨pp, hm, hall⟩
        · exact hall _
        · exact hall _ (c2 j q _ (by omega) (by omega) hq k2 k3 hm k4)
      · rw [fi i hj, vi i hj]
        exact lk.fwd i j p q (by omega) b (by omega) hp hq k1 k2 k3 k4
    · intro i p x a b hp k1 hx k2
      by_cases hj : i = s
      · subst hj
        rw [hos] at hp
        cases hp
        simp only [if_true]
        exact g1 k1 x hx k2
      · dsimp only
        rw [fi i hj, vi i hj]
        exact c1 i p x (by omega) (by omega) hp k1 (g4 x hx) k2
    · intro j q x a b hq k1 k2 hx k3
      dsimp only at k2 ⊢
      rw [hi_ (j + 1) (by omega)] at k2 ⊢
      by_cases hj : j = s
      · subst hj
        rw [hos] at hq
        cases hq
        simp only [if_true] at k2
        rw [e1] at k2 ⊢
        exact g2 k1 k2 x hx k3
      · rw [hi_ j hj] at k2
        exact c2 j q x (by omega) (by omega) hq k1 k2 (g3 x hx) k3
structure Chk (P : Program) (A : FAnn) (r : Nat) (all : List Oper) (ob : List (Nat × Nat)) : Prop where
  edges : ∀ (i : Nat) o, all[i]? = some o → ∀ j ∈ directs o, j < i
  self : ∀ (i : Nat) o, all[i]? = some o → ∀ d, o.dst = some d → d ∉ looks all o
  ext : ∀ (i : Nat) o t, all[i]? = some o → exSrc o.op = some t → ∀ n, n ≤ all.length → getM t (obN P A r all ob n) = 0
  dst : ∀ (i j : Nat) o p, all[i]? = some o → all[j]? = some p → i < j → ∀ d, o.dst = some d → p.dst = some d → bef all j i = true
  back : ∀ (i j : Nat) o p, all[i]? = some o → all[j]? = some p → i < j → ∀ d, p.dst = some d → d ∈ looks all o → bef all j i = true
  ahead : ∀ (i j : Nat) o p, all[i]? = some o → all[j]? = some p → i < j → ∀ d, o.dst = some d → d ∈ looks all p → bef all j i = true
  touch : ∀ (i j : Nat) o p, all[i]? = some o → all[j]? = some p → i < j → ∀ t, t ∈ touchL A r i o → t ∈ touchL A r j p → bef all j i = true
  cls : ∀ (i j : Nat) o p, all[i]? = some o → all[j]? = some p → i < j → bef all j i = true ∨ clsOk (clsOf A r i o.op) (clsOf A r j p.op) = true
theorem mem_enum : ∀ (l : List Oper) (s j : Nat) (o : Oper), l[j]? = some o → (s + j, o) ∈ enum s l
  | [], _, _, _, h => by simp at h
  | p :: l, s, 0, o, h => by simp at h; subst h; simp [enum]
  | p :: l, s, j + 1, o, h => by
    simp only [List.getElem?_cons_succ] at h
    have := mem_enum l (s + 1) j o h
    rw [show s + 1 + j = s + (j + 1) by omega] at this
    simp [enum, this]
theorem obL_at {ob : List (Nat × Nat)} : ∀ (l : List Oper) (s n : Nat), (∀ j : Nat, l[j]? = all[s + j]?) → n ≤ l.length → obN P A r all ob (s + n) ∈ obL P A r (enum s l) (obN P A r all ob s)
  | [], s, n, _, hn => by
    have : n = 0 := by simpa using hn
    subst this
    simp [enum, obL]
  | o :: l, s, 0, _, _ => by simp [enum, obL]
  | o :: l, s, n + 1, hl, hn => by
    have hos : all[s]? = some o := by have := hl 0; simpa using this.symm
    have hob : putM o.dst (maskQ P A r s (obN P A r all ob s) o) (offQ A r s (obN P A r all ob s) o.op) = obN P A r all ob (s + 1) := by
      simp only [obN, hos]
    have := obL_at (ob := ob) l (s + 1) n (fun j => by have := hl (j + 1); simp only [List.getElem?_cons_succ] at this; rw [this]; congr 1; omega) (by simpa using hn)
    rw [show s + 1 + n = s + (n + 1) by omega] at this
    simp only [enum, obL, strict_eq, hob]
    exact List.mem_cons_of_mem _ this
theorem chk_of {ob : List (Nat × Nat)} (h : drawChk P A r all ob = true) : Chk P A r all ob := by
  unfold drawChk at h
  rw [List.all_eq_true] at h
  have one : ∀ (i : Nat) o, all[i]? = some o → ((directs o).all (fun j => Nat.blt j i) = true ∧ inL o.dst (looks all o) = false ∧ (match exSrc o.op with
       | some t => (obL P A r (enum 0 all) ob).all fun ob => Nat.beq (getM t ob) 0
       | none => true) = true) ∧ ∀ (j : Nat) p, all[j]? = some p → i < j → pairOk A r all (befM all []) i o j p = true := by
    intro i o hi
    have := h (i, o) (by have := mem_enum all 0 i o hi; simpa using this)
    simp only [Bool.and_eq_true, Bool.not_eq_true'] at this
    refine ⟨⟨this.1.1.1, this.1.1.2, this.1.2⟩, fun j p hj hij => ?_⟩
    have h2 := this.2
    rw [List.all_eq_true] at h2
    have h3 := h2 (j, p) (by have := mem_enum all 0 j p hj; simpa using this)
    simp only [Bool.or_eq_true] at h3
    rcases h3 with h3 | h3
    · exact absurd (Nat.le_of_ble_eq_true h3) (by omega)
    · exact h3
  have pr : ∀ (i j : Nat) o p, all[i]? = some o → all[j]? = some p → i < j → bef all j i = true ∨ (sameD o.dst p.dst = false ∧ inL p.dst (looks all o) = false ∧ inL o.dst (looks all p) = false ∧ (touchL A r i o).all (fun t => !(touchL A r j p).contains t) = true ∧ clsOk (clsOf A r i o.op) (clsOf A r j p.op) = true) := by
    intro i j o p hi hj hij
    have := (one i o hi).2 j p hj hij
    unfold pairOk at this
    simp only [Bool.and_eq_true, Bool.not_eq_true', Bool.or_eq_true] at this
    rcases this with h | h
    · exact .inl h
    · exact .inr ⟨h.1.1.1.1, h.1.1.1.2, h.1.1.2, h.1.2, h.2⟩
  refine ⟨?_, ?_, ?_, ?_, ?_, ?_, ?_, ?_⟩
  · intro i o hi e he
    have := (one i o hi).1.1
    rw [List.all_eq_true] at this
    exact Nat.le_of_ble_eq_true (this e he)
  · intro i o hi d hd hm
    have := (one i o hi).1.2.1
    rw [hd] at this
    simp [inL] at this
    exact this hm
  · intro i o t hi ht n hn
    have := (one i o hi).1.2.2
    rw [ht] at this
    simp only [List.all_eq_true] at this
    have hm := obL_at (P := P) (A := A) (r := r) (all := all) (ob := ob) all 0 n (fun j => by simp) hn
    rw [Nat.zero_add] at hm
    exact Nat.eq_of_beq_eq_true (this _ hm)
  · intro i j o p hi hj hij d hd hp
    rcases pr i j o p hi hj hij with h | h
    · exact h
    · have := h.1
      rw [hd, hp] at this
      simp [sameD] at this
  · intro i j o p hi hj hij d hd hm
    rcases pr i j o p hi hj hij with h | h
    · exact h
    · have := h.2.1
      rw [hd] at this
      simp [inL] at this
      exact absurd hm this
  · intro i j o p hi hj hij d hd hm
    rcases pr i j o p hi hj hij with h | h
    · exact h
    · have := h.2.2.1
      rw [hd] at this
      simp [inL] at this
      exact absurd hm this
  · intro i j o p hi hj hij t ht hm
    rcases pr i j o p hi hj hij with h | h
    · exact h
    · have := h.2.2.2.1
      rw [List.all_eq_true] at this
      have := this t ht
      simp at this
      exact absurd hm this
  · intro i j o p hi hj hij
    rcases pr i j o p hi hj hij with h | h
    · exact .inl h
    · exact .inr h.2.2.2.2
def Valid (all : List Oper) : List Nat → (Nat → Prop) → Prop
  | [], S => ∀ i, i < all.length → S i
  | i :: l, S => ¬ S i ∧ (∃ o, all[i]? = some o ∧ ∀ j ∈ directs o, S j) ∧ Valid all l fun j => S j ∨ j = i
def put1 (nt : Nat) (t : Nat) (v : AV) : AV := bif Nat.blt t nt then v else .undef
theorem getV_put (nt : Nat) (d : Option Tmp) (v : AV) (fr : List (Nat × AV)) (t : Nat) : getV t (putV nt d v fr) = if d = some t then put1 nt t v else getV t fr := by
  cases d with
  | none => rfl
  | some d =>
    by_cases hd : d = t
    · subst hd
      simp only [putV, put1, if_true]
      cases Nat.blt d nt <;> simp [getV]
    · simp only [putV, Option.some.injEq, hd, if_false]
      cases Nat.blt d nt <;> simp [getV, beq_no hd]
def LastW (A : FAnn) (all : List Oper) (fr0 : List (Nat × AV)) (V : Nat → AV) (S : Nat → Prop) (fr : List (Nat × AV)) (t : Nat) : Prop :=
  (∃ (j : Nat) (o : Oper), S j ∧ all[j]? = some o ∧ o.dst = some t ∧ (∀ (k : Nat) (p : Oper), S k → all[k]? = some p → p.dst = some t → k ≤ j) ∧ getV t fr = put1 A.nt t (V j)) ∨
  ((∀ (j : Nat) (o : Oper), S j → all[j]? = some o → o.dst ≠ some t) ∧ getV t fr = getV t fr0)
section
variable {fr0 : List (Nat × AV)} {h0 : H} {fr1 : List (Nat × AV)} {h1 : H} {V : Nat → AV} {Hp : Nat → H} {Fr : Nat → List (Nat × AV)}
theorem LastW.eq {S S' : Nat → Prop} {fr fr' : List (Nat × AV)} {t : Nat} (h : LastW A all fr0 V S fr t) (h' : LastW A all fr0 V S' fr' t) (hs : ∀ (j : Nat) (o : Oper), all[j]? = some o → o.dst = some t → (S j ↔ S' j)) : getV t fr = getV t fr' := by
  rcases h with ⟨j, o, a1, a2, a3, a4, a5⟩ | ⟨a1, a2⟩
  · rcases h' with ⟨k, p, b1, b2, b3, b4, b5⟩ | ⟨b1, b2⟩
    · have e1 := a4 k p ((hs k p b2 b3).2 b1) b2 b3
      have e2 := b4 j o ((hs j o a2 a3).1 a1) a2 a3
      have : j = k := by omega
      rw [a5, b5, this]
    · exact absurd a3 (b1 j o ((hs j o a2 a3).1 a1) a2)
  · rcases h' with ⟨k, p, b1, b2, b3, b4, b5⟩ | ⟨b1, b2⟩
    · exact absurd b3 (a1 k p ((hs k p b2 b3).2 b1) b2)
    · rw [a2, b2]
theorem LastW.put {S S' : Nat → Prop} {fr : List (Nat × AV)} {i : Nat} {o : Oper} (ho : all[i]? = some o) (hS : ∀ j, S' j ↔ S j ∨ j = i) (h : ∀ t, LastW A all fr0 V S fr t) (hlt : ∀ (k : Nat) (p : Oper) (t : Nat), S k → all[k]? = some p → p.dst = some t → o.dst = some t → k ≤ i) (t : Nat) : LastW A all fr0 V S' (putV A.nt o.dst (V i) fr) t := by
  by_cases hd : o.dst = some t
  · refine .inl ⟨i, o, (hS i).2 (.inr rfl), ho, hd, fun k p hk hp hpt => ?_, by rw [getV_put, if_pos hd]⟩
    rcases (hS k).1 hk with hk | rfl
    · exact hlt k p t hk hp hpt hd
    · exact Nat.le_refl _
  · have e : getV t (putV A.nt o.dst (V i) fr) = getV t fr := by rw [getV_put, if_neg hd]
    rcases h t with ⟨j, p, a1, a2, a3, a4, a5⟩ | ⟨a1, a2⟩
    · refine .inl ⟨j, p, (hS j).2 (.inl a1), a2, a3, fun k q hk hq hqt => ?_, by rw [e, a5]⟩
      rcases (hS k).1 hk with hk | rfl
      · exact a4 k q hk hq hqt
      · rw [ho] at hq; cases hq; exact absurd hqt hd
    · refine .inr ⟨fun j p hj hp => ?_, by rw [e, a2]⟩
      rcases (hS j).1 hj with hj | rfl
      · exact a1 j p hj hp
      · rw [ho] at hp; cases hp; exact hd
def wr (A : FAnn) (r : Nat) (Hp : Nat → H) (j : Nat) (o : Oper) : Prop := 2 ≤ clsOf A r j o.op ∧ Hp (j + 1) ≠ Hp j
structure Inv (A : FAnn) (r : Nat) (all : List Oper) (fr0 : List (Nat × AV)) (V : Nat → AV) (Hp : Nat → H) (S : Nat → Prop) (fr : List (Nat × AV)) (h : H) : Prop where
  dir : ∀ j o, S j → all[j]? = some o → ∀ i ∈ directs o, S i
  fr : ∀ t, LastW A all fr0 V S fr t
  c : ∃ m, h = Hp m ∧ m ≤ all.length ∧ (∀ (j : Nat) o, S j → all[j]? = some o → wr A r Hp j o → j < m) ∧ (∀ (j : Nat) o, j < m → all[j]? = some o → wr A r Hp j o → S j)
theorem Trace.frames (t : Trace P A call r all obf 0 all fr0 h0 fr1 h1 V Hp Fr) : ∀ i, i ≤ all.length → ∀ x, LastW A all fr0 V (fun j => j < i) (Fr i) x := by
  intro i
  induction i with
  | zero => intro _ x; exact .inr ⟨fun j _ hj => absurd hj (by omega), by rw [t.f0]⟩
  | succ i ih =>
    intro hi x
    have hio : all[i]? = some all[i] := by simp
    have hs := (t.step i _ hio).2
    simp only [Nat.zero_add] at hs
    rw [hs]
    exact LastW.put hio (fun j => by omega) (ih (by omega)) (fun k p t hk _ _ _ => by omega) x
theorem Trace.still (hq : ∀ f ∈ A.q, Still call f) (t : Trace P A call r all obf 0 all fr0 h0 fr1 h1 V Hp Fr) {j : Nat} {o : Oper} (ho : all[j]? = some o) (hw : ¬ wr A r Hp j o) : Hp (j + 1) = Hp j := by
  have hs := (t.step j o ho).1
  simp only [Nat.zero_add] at hs
  by_cases hc : 2 ≤ clsOf A r j o.op
  · exact Classical.byContradiction fun hn => hw ⟨hc, hn⟩
  · rcases (show clsOf A r j o.op = 0 ∨ clsOf A r j o.op = 1 by omega) with hc | hc
    · exact (stp_still hc hs).1
    · exact (stp_reader hq hc hs).1
theorem Trace.between (hq : ∀ f ∈ A.q, Still call f) (t : Trace P A call r all obf 0 all fr0 h0 fr1 h1 V Hp Fr) (m : Nat) : ∀ k, m ≤ k → k ≤ all.length → (∀ (j : Nat) o, m ≤ j → j < k → all[j]? = some o → ¬ wr A r Hp j o) → Hp k = Hp m := by
  intro k
  induction k with
  | zero => intro h1 _ _; rw [show m = 0 by omega]
  | succ k ih =>
    intro h1 h2 h3
    by_cases hm : m = k + 1
    · rw [hm]
    · have hk : all[k]? = some all[k] := by simp
      rw [t.still hq hk (h3 k _ (by omega) (by omega) hk)]
      exact ih (by omega) (by omega) fun j o a b => h3 j o a (by omega)
theorem Trace.grows (hq : ∀ f ∈ A.q, Still call f) (t : Trace P A call r all obf 0 all fr0 h0 fr1 h1 V Hp Fr) (m : Nat) : ∀ k, m ≤ k → k ≤ all.length → (∀ (j : Nat) o, m ≤ j → j < k → all[j]? = some o → wr A r Hp j o → clsOf A r j o.op = 2) → ∃ l, Hp k = Hp m ++ l := by
  intro k
  induction k with
  | zero => intro h1 _ _; rw [show m = 0 by omega]; exact ⟨[], by simp⟩
  | succ k ih =>
    intro h1 h2 h3
    by_cases hm : m = k + 1
    · rw [hm]; exact ⟨[], by simp⟩
    · have hk : all[k]? = some all[k] := by simp
      obtain ⟨l, hl⟩ := ih (by omega) (by omega) fun j o a b => h3 j o a (by omega)
      by_cases hw : wr A r Hp k all[k]
      · have hs := (t.step k _ hk).1
        simp only [Nat.zero_add] at hs
        obtain ⟨l2, hl2⟩ := stp_new (h3 k _ (by omega) (by omega) hk hw) hs
        exact ⟨l ++ l2, by rw [hl2, hl, List.append_assoc]⟩
      · exact ⟨l, by rw [t.still hq hk hw, hl]⟩
theorem clsOk_wr {a b : Nat} (ha : 2 ≤ a) (hb : 2 ≤ b) : clsOk a b = false := by
  match a, b with
  | 0, _ => omega
  | 1, _ => omega
  | _ + 2, 0 => omega
  | _ + 2, 1 => omega
  | _ + 2, _ + 2 => rfl
theorem least_of {Q : Nat → Prop} {m i : Nat} (h : ∃ j, m ≤ j ∧ j < i ∧ Q j) : ∃ j, m ≤ j ∧ j < i ∧ Q j ∧ ∀ k, m ≤ k → k < j → ¬ Q k := by
  obtain ⟨j, h1, h2, h3⟩ := h
  induction j using Nat.strongRecOn with
  | ind j ih =>
    by_cases hx : ∃ k, m ≤ k ∧ k < j ∧ Q k
    · obtain ⟨k, a, b, c⟩ := hx
      exact ih k b a (by omega) c
    · exact ⟨j, h1, h2, h3, fun k a b c => hx ⟨k, a, b, c⟩⟩
theorem greatest_of {Q : Nat → Prop} {m i : Nat} (h : ∃ j, m ≤ j ∧ j < i ∧ Q j) : ∃ j, m ≤ j ∧ j < i ∧ Q j ∧ ∀ k, j < k → k < i → ¬ Q k := by
  obtain ⟨j, h1, h2, h3⟩ := h
  obtain ⟨d, hd⟩ : ∃ d, d = i - j := ⟨_, rfl⟩
  induction d using Nat.strongRecOn generalizing j with
  | ind d ih =>
    by_cases hx : ∃ k, j < k ∧ k < i ∧ Q k
    · obtain ⟨k, a, b, c⟩ := hx
      exact ih (i - k) (by omega) k (by omega) b c rfl
    · exact ⟨j, h1, h2, h3, fun k a b c => hx ⟨k, a, b, c⟩⟩
theorem cls_le {A : FAnn} {r i : Nat} {op : Op} : clsOf A r i op ≤ 3 := by
  unfold clsOf
  split
  · omega
  · omega
  · omega
  · omega
  · omega
  · split
    · cases A.q.contains _ <;> simp
    · omega
  · split <;> omega
theorem Inv.step {ob0 : List (Nat × Nat)} (ck : Chk P A r all ob0) (hq : ∀ f ∈ A.q, Still call f) (t : Trace P A call r all obf 0 all fr0 h0 fr1 h1 V Hp Fr) (lk : Looks P A call r all obf V Hp Fr 0 all.length) {S : Nat → Prop} {fr : List (Nat × AV)} {h : H} (iv : Inv A r all fr0 V Hp S fr h)
    {i : Nat} {o : Oper} (ho : all[i]? = some o) (hi : ¬ S i) (hd : ∀ j ∈ directs o, S j) : ∃ h', stp P A call r all (obf i) i o fr h = some (V i, h') ∧ Inv A r all fr0 V Hp (fun j => S j ∨ j = i) (putV A.nt o.dst (V i) fr) h' := by
  have hil : i < all.length := (List.getElem?_eq_some_iff.1 ho).1
  have hs := (t.step i o ho).1
  simp only [Nat.zero_add] at hs
  have closed : ∀ k, S k → ∀ j, bef all k j = true → S j := bef_closed iv.dir
  have dir' : ∀ j p, (S j ∨ j = i) → all[j]? = some p → ∀ k ∈ directs p, S k ∨ k = i := by
    intro j p hj hp k hk
    rcases hj with hj | rfl
    · exact .inl (iv.dir j p hj hp k hk)
    · rw [ho] at hp; cases hp; exact .inl (hd k hk)
  have closed' : ∀ j, bef all i j = true → j ≠ i → S j := by
    intro j hj hji
    rcases bef_closed dir' i (.inr rfl) j hj with h | h
    · exact h
    · exact absurd h hji
  have hlike : Like (looks all o) (Fr i) fr := by
    intro x hx
    refine (t.frames i (by omega) x).eq (iv.fr x) fun j p hp hpx => ⟨fun hlt => ?_, fun hS => ?_⟩
    · exact closed' j (ck.ahead j i p o hp ho hlt x hpx hx) (by omega)
    · rcases Nat.lt_trichotomy j i with h | h | h
      · exact h
      · subst h; exact absurd hS hi
      · exact absurd (closed j hS i (ck.back i j o p ho hp h x hpx hx)) hi
  obtain ⟨m, hm, hml, c1, c2⟩ := iv.c
  have atH : ∀ hh v' h', stp P A call r all (obf i) i o (Fr i) hh = some (v', h') → stp P A call r all (obf i) i o fr hh = some (v', h') := fun hh v' h' e => by rw [← stp_like hlike]; exact e
  have ff : ∀ x, LastW A all fr0 V (fun j => S j ∨ j = i) (putV A.nt o.dst (V i) fr) x := fun x => by
    refine LastW.put ho (fun j => Iff.rfl) iv.fr (fun k p t hk hp hpt hot => ?_) x
    rcases Nat.lt_or_ge i k with hlt | hge
    · exact absurd (closed k hk i (ck.dst i k o p ho hp hlt t hot hpt)) hi
    · exact hge
  by_cases hwi : 2 ≤ clsOf A r i o.op
  ·
    have ord : ∀ (j : Nat) p, all[j]? = some p → j ≠ i → 2 ≤ clsOf A r j p.op → (S j ↔ j < i) := by
      intro j p hp hji hw
      constructor
      · intro hS
        rcases Nat.lt_or_gt_of_ne hji with h | h
        · exact h
        · rcases ck.cls i j o p ho hp h with hb | hb
          · exact absurd (closed j hS i hb) hi
          · rw [clsOk_wr hwi hw] at hb; cases hb
      · intro hlt
        rcases ck.cls j i p o hp ho hlt with hb | hb
        · exact closed' j hb hji
        · rw [clsOk_wr hw hwi] at hb; cases hb
    have e : Hp i = Hp m := by
      rcases Nat.lt_or_ge i m with hmi | hmi
      · refine (t.between hq i m (by omega) hml fun j p a b hp hw => ?_).symm
        have hS := c2 j p b hp hw
        have hji : j ≠ i := fun e => hi (e ▸ hS)
        have := (ord j p hp hji hw.1).1 hS
        omega
      · refine t.between hq m i hmi (by omega) fun j p a b hp hw => ?_
        have hS := (ord j p hp (by omega) hw.1).2 b
        have := c1 j p hS hp hw
        omega
    rw [e, ← hm] at hs
    refine ⟨_, atH _ _ _ hs, dir', ff, i + 1, rfl, by omega, ?_, ?_⟩
    · intro j p hj hp hw
      rcases hj with hj | rfl
      · have hji : j ≠ i := fun e => hi (e ▸ hj)
        have := (ord j p hp hji hw.1).1 hj
        omega
      · omega
    · intro j p hj hp hw
      by_cases hji : j = i
      · exact .inr hji
      · exact .inl ((ord j p hp hji hw.1).2 (by omega))
  · have cc : ∀ h', h' = h → Inv A r all fr0 V Hp (fun j => S j ∨ j = i) (putV A.nt o.dst (V i) fr) h' := by
      rintro h' rfl
      refine ⟨dir', ff, m, hm, hml, ?_, ?_⟩
      · intro j p hj hp hw
        rcases hj with hj | rfl
        · exact c1 j p hj hp hw
        · rw [ho] at hp; cases hp; exact absurd hw.1 hwi
      · intro j p hj hp hw
        exact .inl (c2 j p hj hp hw)
    rcases (show clsOf A r i o.op = 0 ∨ clsOf A r i o.op = 1 by omega) with hc | hc
    · exact ⟨h, atH _ _ _ ((stp_still hc hs).2 h), cc h rfl⟩
    · have stay := (stp_reader hq hc hs).1
      rw [stay] at hs
      refine ⟨h, atH _ _ _ ?_, cc h rfl⟩
      rw [hm]
      rcases Nat.lt_or_ge i m with hmi | hmi
      · have done : ∀ (j : Nat) (p : Oper), i < j → j < m → all[j]? = some p → wr A r Hp j p → bef all j i = false := by
          intro j p hij hjm hp hw
          have hSj := c2 j p hjm hp hw
          cases hb : bef all j i with
          | false => rfl
          | true => exact absurd (closed j hSj i hb) hi
        by_cases hex : ∃ j, i + 1 ≤ j ∧ j < m ∧ ∃ p, all[j]? = some p ∧ wr A r Hp j p ∧ clsOf A r j p.op = 3
        · obtain ⟨j, a1, a2, ⟨p, a3, a4, a5⟩, a6⟩ := greatest_of hex
          have h1 := lk.fwd i j o p (Nat.zero_le _) (by omega) (by omega) ho a3 hc a5 a4.2 (done j p (by omega) a2 a3 a4)
          obtain ⟨l, hl⟩ := t.grows hq (j + 1) m (by omega) hml fun k q b1 b2 b3 b4 => by
            have : clsOf A r k q.op ≠ 3 := fun e => a6 k (by omega) b2 ⟨q, b3, b4, e⟩
            have := b4.1
            have := cls_le (A := A) (r := r) (i := k) (op := q.op)
            omega
          rw [hl]
          exact (stp_reader hq hc h1).2 l
        · obtain ⟨l, hl⟩ := t.grows hq i m (by omega) hml fun k q b1 b2 b3 b4 => by
            by_cases hki : k = i
            · subst hki; rw [ho] at b3; cases b3; exact absurd b4.1 hwi
            · have : clsOf A r k q.op ≠ 3 := fun e => hex ⟨k, by omega, b2, q, b3, b4, e⟩
              have := b4.1
              have := cls_le (A := A) (r := r) (i := k) (op := q.op)
              omega
          rw [hl]
          exact (stp_reader hq hc hs).2 l
      · by_cases hex : ∃ j, m ≤ j ∧ j < i ∧ ∃ p, all[j]? = some p ∧ wr A r Hp j p
        · obtain ⟨j, a1, a2, ⟨p, a3, a4⟩, a5⟩ := least_of hex
          have e := t.between hq m j a1 (by omega) fun k q b1 b2 b3 b4 => a5 k b1 b2 ⟨q, b3, b4⟩
          rw [← e]
          refine lk.back j i o p (Nat.zero_le _) a2 hil ho a3 hc a4.1 a4.2 ?_
          cases hb : bef all i j with
          | false => rfl
          | true =>
            have := c1 j p (closed' j hb (by omega)) a3 a4
            omega
        · have e := t.between hq m i hmi (by omega) fun k q b1 b2 b3 b4 => hex ⟨k, b1, b2, q, b3, b4⟩
          rw [← e]
          exact hs
def orderedL (all : List Oper) (l : List Nat) : List (Nat × Oper) := l.filterMap fun i => (all[i]?).map fun o => (i, o)
theorem valid_run {ob0 : List (Nat × Nat)} (ck : Chk P A r all ob0) (hq : ∀ f ∈ A.q, Still call f) (t : Trace P A call r all obf 0 all fr0 h0 fr1 h1 V Hp Fr) (lk : Looks P A call r all obf V Hp Fr 0 all.length) : ∀ (l : List Nat) (S : Nat → Prop) (fr : List (Nat × AV)) (h : H), Valid all l S → Inv A r all fr0 V Hp S fr h →
    ∃ fr2, regionQ P A call r all obf (fun fr h => some (fr, h)) (orderedL all l) fr h = some (fr2, h1) ∧ ∀ x, getV x fr2 = getV x fr1
  | [], S, fr, h, hv, iv => by
    have e1 := t.fn
    have e2 := t.hn
    simp only [Nat.zero_add] at e1 e2
    obtain ⟨m, hm, hml, c1, c2⟩ := iv.c
    have hall : ∀ (j : Nat) o, all[j]? = some o → S j := fun j o ho => hv j (List.getElem?_eq_some_iff.1 ho).1
    have hh : h = h1 := by
      rw [hm, ← e2]
      exact (t.between hq m all.length hml (Nat.le_refl _) fun j o a b ho hw => by have := c1 j o (hall j o ho) ho hw; omega).symm
    subst hh
    refine ⟨fr, rfl, fun x => ?_⟩
    rw [← e1]
    exact (iv.fr x).eq (t.frames all.length (Nat.le_refl _) x) fun j p hp _ => ⟨fun _ => (List.getElem?_eq_some_iff.1 hp).1, fun _ => hall j p hp⟩
  | i :: l, S, fr, h, hv, iv => by
    obtain ⟨hi, ⟨o, ho, hd⟩, hv⟩ := hv
    obtain ⟨h', hs, iv'⟩ := iv.step ck hq t lk ho hi hd
    obtain ⟨fr2, e, hg⟩ := valid_run ck hq t lk l _ _ _ hv iv'
    refine ⟨fr2, ?_, hg⟩
    simp only [orderedL, List.filterMap_cons, ho, Option.map_some, regionQ]
    rw [stepQ_eq, hs]
    exact e
theorem order_free {R : Type} {ob0 : List (Nat × Nat)} {k : List (Nat × AV) → List (Nat × Nat) → H → Option R} {res : R} (ck : Chk P A r all ob0) (hq : ∀ f ∈ A.q, Still call f) (he : regionQC P A call r all (befM all []) k (enum 0 all) [] [] fr0 ob0 h0 = some res) {l : List Nat} (hv : Valid all l fun _ => False) :
    ∃ fr1 fr2 h1, k fr1 (obN P A r all ob0 all.length) h1 = some res ∧ regionQ P A call r all (obN P A r all ob0) (fun fr h => some (fr, h)) (orderedL all l) fr0 h0 = some (fr2, h1) ∧ ∀ x, getV x fr2 = getV x fr1 := by
  obtain ⟨V, Hp, Fr, fr1, h1, t, hk, lk, _, _⟩ := traceC_of (P := P) (A := A) (call := call) (r := r) hq (ob0 := ob0) all 0 [] [] fr0 h0 (fun j => by simp) he
  rw [Nat.zero_add] at hk lk
  have hh := t.h0
  obtain ⟨fr2, e, hg⟩ := valid_run ck hq t lk l _ fr0 h0 hv ⟨fun _ _ h => h.elim, fun _ => .inr ⟨fun _ _ h => h.elim, rfl⟩, 0, hh.symm, Nat.zero_le _, fun _ _ h => h.elim, fun _ _ h => absurd h (by omega)⟩
  exact ⟨fr1, fr2, h1, hk, e, hg⟩
end
end
end Go.Ve

namespace Go.Ve
open Go
theorem filter_less {p p' : Nat → Bool} {i : Nat} (hpp : ∀ x, p' x = true → p x = true) (hi : p i = true) (hi' : p' i = false) : ∀ l : List Nat, i ∈ l → (l.filter p').length < (l.filter p).length := by
  have le : ∀ l : List Nat, (l.filter p').length ≤ (l.filter p).length := by
    intro l
    induction l with
    | nil => simp
    | cons x l ih =>
      simp only [List.filter_cons]
      cases h1 : p' x with
      | true => simp [hpp x h1]; exact ih
      | false => cases p x <;> simp <;> omega
  intro l
  induction l with
  | nil => intro h; simp at h
  | cons x l ih =>
    intro h
    simp only [List.filter_cons]
    by_cases hx : x = i
    · subst hx
      have := le l
      simp [hi, hi']; omega
    · have hm : i ∈ l := by simpa [Ne.symm hx] using h
      have := ih hm
      cases h1 : p' x with
      | true => simp [hpp x h1]; exact this
      | false => cases p x <;> simp <;> omega
theorem Valid.mono_eq {all : List Oper} {l : List Nat} {S S' : Nat → Prop} (h : ∀ i, S i ↔ S' i) (hv : Valid all l S) : Valid all l S' := by
  have : S = S' := funext fun i => propext (h i)
  rwa [← this]
theorem go_valid {ops : Array Oper} (hed : ∀ (i : Nat) o, ops.toList[i]? = some o → ∀ j ∈ directs o, j < i) : ∀ (fuel t : Nat) (listed : Array Bool), listed.size = ops.size →
    ((List.range ops.size).filter fun i => !listed.getD i true).length ≤ fuel → Valid ops.toList (Region.linearise.go .any ops fuel t listed []) fun j => listed.getD j false = true := by
  have fin : ∀ (listed : Array Bool), listed.size = ops.size → (∀ i, i ∉ (List.range ops.size).filter fun i => !listed.getD i true && ((ops[i]?).map (·.after.all fun e => !Region.binds .any e || listed.getD e.on false)).getD false) → ∀ i, i < ops.toList.length → listed.getD i false = true := by
    intro listed hsz hnone i
    induction i using Nat.strongRecOn with
    | ind i ih =>
      intro hi
      rw [Array.length_toList] at hi
      cases hl : listed.getD i false with
      | true => rfl
      | false =>
        refine absurd ?_ (hnone i)
        rw [List.mem_filter, List.mem_range]
        refine ⟨hi, ?_⟩
        have hl2 : listed.getD i true = false := by
          simp [hsz, hi] at hl ⊢
          exact hl
        rw [hl2]
        simp only [Bool.not_false, Bool.true_and, Array.getElem?_eq_getElem hi, Option.map_some, Option.getD_some]
        rw [Array.all_eq_true_iff_forall_mem]
        intro e he
        cases hb : Region.binds .any e with
        | false => simp
        | true =>
          have hlt := hed i ops[i] (by simp [hi]) e.on (List.mem_map.2 ⟨e, List.mem_filter.2 ⟨by simpa using he, hb⟩, rfl⟩)
          simp [ih e.on hlt (by rw [Array.length_toList]; omega)]
  intro fuel
  induction fuel with
  | zero =>
    intro t listed hsz hle
    simp only [Region.linearise.go, List.reverse_nil]
    refine fin listed hsz fun i hi => ?_
    rw [List.mem_filter] at hi
    have hm : i ∈ (List.range ops.size).filter fun i => !listed.getD i true := by
      rw [List.mem_filter]
      exact ⟨hi.1, by have := hi.2; simp only [Bool.and_eq_true] at this; exact this.1⟩
    have : (List.range ops.size).filter (fun i => !listed.getD i true) = [] := List.length_eq_zero_iff.1 (by omega)
    rw [this] at hm
    cases hm
  | succ fuel ih =>
    intro t listed hsz hle
    simp only [Region.linearise.go]
    generalize hrs : ((List.range ops.size).filter fun i => !listed.getD i true && ((ops[i]?).map (·.after.all fun e => !Region.binds .any e || listed.getD e.on false)).getD false) = rs
    cases hi : rs[t % rs.length]? with
    | none =>
      have hnil : rs = [] := by
        cases rs with
        | nil => rfl
        | cons x xs =>
          have hlt : t % (x :: xs).length < (x :: xs).length := Nat.mod_lt _ (by simp)
          rw [List.getElem?_eq_none_iff] at hi
          omega
      simp only [List.reverse_nil]
      refine fin listed hsz fun i => ?_
      rw [hrs, hnil]; simp
    | some i =>
      simp only []
      rw [linearise_go_acc, List.reverse_singleton, List.singleton_append]
      have hm := List.mem_of_getElem? hi
      rw [← hrs, List.mem_filter, List.mem_range] at hm
      obtain ⟨hin, hm⟩ := hm
      simp only [Bool.and_eq_true, Bool.not_eq_true', Array.getElem?_eq_getElem hin, Option.map_some, Option.getD_some, Array.all_eq_true_iff_forall_mem] at hm
      have hunl : listed.getD i false = false := by
        have := hm.1
        simp [hsz, hin] at this ⊢
        exact this
      refine ⟨by simp [hunl], ⟨ops[i], by simp [hin], ?_⟩, ?_⟩
      · intro j hj
        unfold directs at hj
        rw [List.mem_map] at hj
        obtain ⟨e, he, rfl⟩ := hj
        rw [List.mem_filter] at he
        have h2 := hm.2 e (by simpa using he.1)
        simpa [he.2] using h2
      · refine Valid.mono_eq (fun j => ?_) (ih (t / rs.length) (listed.setIfInBounds i true) (by simp [hsz]) ?_)
        · by_cases hji : j = i
          · subst hji
            simp [hsz, hin]
          · simp [Ne.symm hji, hji]
        · have := filter_less (p := fun j => !listed.getD j true) (p' := fun j => !(listed.setIfInBounds i true).getD j true) (i := i) ?_ (by simp [hm.1]) (by simp [hsz, hin]) (List.range ops.size) (by simpa using hin)
          · omega
          · intro x hx
            by_cases hxi : x = i
            · subst hxi; simp [hsz, hin] at hx
            · simp [Ne.symm hxi] at hx ⊢
              exact hx
theorem schedule_valid {ops : Array Oper} {mixed : Bool} (hmix : mixed = true) (hed : ∀ (i : Nat) o, ops.toList[i]? = some o → ∀ j ∈ directs o, j < i) (t : Nat) : Valid ops.toList (Region.schedule mixed ops t) fun _ => False := by
  have lin : ∀ t, Valid ops.toList (Region.linearise .any ops t) fun _ => False := by
    intro t
    refine Valid.mono_eq (fun i => ?_) (go_valid hed ops.size t (Array.replicate ops.size false) (by simp) ?_)
    · simp only [Array.getD_eq_getD_getElem?, Array.getElem?_replicate]
      split <;> simp
    · exact Nat.le_trans (List.length_filter_le _ _) (by simp)
  unfold Region.schedule
  simp only [hmix, Bool.true_or, if_true]
  exact lin t
section
variable {P : Program} {A : FAnn} {r i : Nat} {call : Cl} {all : List Oper} {ob ob' : List (Nat × Nat)} {o : Oper}
theorem getM_obOff_else {x : Operand} {t : Nat} (ht : t ∉ takeT A r i x) : getM t (obOff A r i ob x) = getM t ob := by
  cases x with
  | tmp u =>
    simp only [obOff, takeT] at ht ⊢
    cases hb : A.takes r i u with
    | false => rfl
    | true =>
      rw [hb] at ht
      simp only [cond_true, List.mem_singleton] at ht
      simp only [cond_true, getM, beq_no (Ne.symm ht), cond_false]
  | _ => rfl
theorem getM_obOff_in {x : Operand} {t : Nat} (ht : t ∈ takeT A r i x) : getM t (obOff A r i ob x) = 0 := by
  cases x with
  | tmp u =>
    simp only [obOff, takeT] at ht ⊢
    cases hb : A.takes r i u with
    | false => rw [hb] at ht; simp at ht
    | true =>
      rw [hb] at ht
      simp only [cond_true, List.mem_singleton] at ht
      subst ht
      simp [getM]
  | _ => simp [takeT] at ht
theorem offQ_else {t : Nat} {op : Op} (ht : t ∉ takesL A r i op) : getM t (offQ A r i ob op) = getM t ob := by
  unfold offQ
  split
  · rfl
  · rename_i hne
    unfold offOf
    split
    · exact getM_obOff_else (by simpa [takesL] using ht)
    · exact getM_obOff_else (by simpa [takesL] using ht)
    · exact getM_obOff_else (by simpa [takesL] using ht)
    · exact getM_obOff_else (by simpa [takesL] using ht)
    · split
      · rename_i x xs hx
        exact getM_obOff_else (by simpa [takesL, hx] using ht)
      · rfl
    · exact absurd rfl (hne _ _)
    · rfl
theorem offQ_in {t : Nat} {op : Op} (ht : t ∈ takesL A r i op) : getM t (offQ A r i ob op) = 0 := by
  cases op <;> try (simp [takesL] at ht; done)
  case move x => exact getM_obOff_in ht
  case assign x => exact getM_obOff_in ht
  case box t' x => exact getM_obOff_in ht
  case store t' a x => exact getM_obOff_in ht
  case call c =>
    obtain ⟨callee, args, tys⟩ := c
    cases callee with
    | value f => simp [takesL] at ht
    | invoke rr m => simp [takesL] at ht
    | builtin b =>
      cases b <;> try (simp [takesL] at ht; done)
      simp only [takesL] at ht
      show getM t (match args.toList with | x :: _ => obOff A r i ob x | _ => ob) = 0
      split at ht
      · rename_i x xs hx
        rw [hx]
        exact getM_obOff_in ht
      · cases ht
theorem mOf_like {x : Operand} (h : ∀ t ∈ takeT A r i x, getM t ob = getM t ob') : mOf A r i ob x = mOf A r i ob' x := by
  cases x with
  | tmp u =>
    simp only [mOf, takeT] at h ⊢
    cases hb : A.takes r i u with
    | false => rfl
    | true =>
      rw [hb] at h
      exact h u (by simp)
  | _ => rfl
theorem maskQ_like (h : ∀ t ∈ takesL A r i o.op, getM t ob = getM t ob') : maskQ P A r i ob o = maskQ P A r i ob' o := by
  unfold maskQ
  split
  · rfl
  · rfl
  · rename_i hne _
    unfold maskOf
    split
    · rename_i ho; exact mOf_like (by rw [ho] at h; exact h)
    · rename_i ho; exact mOf_like (by rw [ho] at h; exact h)
    · rfl
    · rfl
    · rfl
    · rfl
    · rfl
    · rename_i ho; exact absurd ho (hne _ _)
    · rfl
theorem valOp_ob {fr : List (Nat × AV)} {h : H} (hh : ∀ t ∈ takesL A r i o.op, getM t ob = getM t ob') : valOp P A r i fr ob h o.op = valOp P A r i fr ob' h o.op := by
  cases ho : o.op <;> try rfl
  rename_i c
  rw [ho] at hh
  obtain ⟨callee, args, tys⟩ := c
  cases callee with
  | value f => rfl
  | invoke rr m => rfl
  | builtin b =>
    cases b <;> try rfl
    simp only [valOp]
    split
    · rename_i x y t t2 hx ht
      rw [mOf_like (x := x) (ob := ob) (ob' := ob')]
      intro u hu
      refine hh u ?_
      simp only [takesL, hx]
      exact hu
    · rfl
theorem heapOp_ob {fr : List (Nat × AV)} {h : H} (hh : ∀ t ∈ takesL A r i o.op, getM t ob = getM t ob') : heapOp P A r i fr ob h o.op = heapOp P A r i fr ob' h o.op := by
  cases ho : o.op <;> try rfl
  case call c =>
    obtain ⟨callee, args, tys⟩ := c
    cases callee <;> first | rfl | (rename_i b; cases b <;> rfl)
  · rw [ho] at hh
    simp only [heapOp]
    rw [mOf_like hh]
  · rw [ho] at hh
    simp only [heapOp]
    rw [mOf_like hh]
theorem stp_ob {fr : List (Nat × AV)} {h : H} (hh : ∀ t ∈ takesL A r i o.op, getM t ob = getM t ob') : stp P A call r all ob i o fr h = stp P A call r all ob' i o fr h := by
  unfold stp stepQ
  rw [valOp_ob hh, heapOp_ob hh]
theorem obN_succ {n : Nat} (ho : all[n]? = some o) : obN P A r all ob (n + 1) = putM o.dst (maskQ P A r n (obN P A r all ob n) o) (offQ A r n (obN P A r all ob n) o.op) := by
  simp only [obN, ho]
theorem getM_put {t m : Nat} (d : Option Tmp) (ob : List (Nat × Nat)) : getM t (putM d m ob) = if d = some t then m else getM t ob := by
  cases d with
  | none => rfl
  | some d =>
    simp only [putM, getM]
    by_cases h : d = t
    · subst h; simp
    · rw [beq_no h]; simp [h]
theorem obN_keep {t : Nat} : ∀ (n m : Nat), m ≤ n → (∀ (k : Nat) o, m ≤ k → k < n → all[k]? = some o → t ∉ touchL A r k o) → getM t (obN P A r all ob n) = getM t (obN P A r all ob m)
  | 0, m, h1, _ => by rw [show m = 0 by omega]
  | n + 1, m, h1, h2 => by
    by_cases hm : m = n + 1
    · rw [hm]
    · rw [← obN_keep n m (by omega) fun k o a b => h2 k o a (by omega)]
      cases ho : all[n]? with
      | none => simp only [obN, ho]
      | some o =>
        have hn := h2 n o (by omega) (by omega) ho
        unfold touchL at hn
        simp only [List.mem_append, not_or] at hn
        rw [obN_succ ho, getM_put, if_neg (fun e => hn.1 (by rw [e]; simp)), offQ_else hn.2]
def LastT (P : Program) (A : FAnn) (r : Nat) (all : List Oper) (ob0 : List (Nat × Nat)) (S : Nat → Prop) (ob : List (Nat × Nat)) (t : Nat) : Prop :=
  (∃ (j : Nat) (o : Oper), S j ∧ all[j]? = some o ∧ t ∈ touchL A r j o ∧ (∀ (k : Nat) (p : Oper), S k → all[k]? = some p → t ∈ touchL A r k p → k ≤ j) ∧ getM t ob = getM t (obN P A r all ob0 (j + 1))) ∨
  ((∀ (j : Nat) (o : Oper), S j → all[j]? = some o → t ∉ touchL A r j o) ∧ getM t ob = getM t ob0)
theorem LastT.at {ob0 : List (Nat × Nat)} {S : Nat → Prop} {t n : Nat} (h : LastT P A r all ob0 S ob t) (hs : ∀ (j : Nat) (o : Oper), all[j]? = some o → t ∈ touchL A r j o → (S j ↔ j < n)) : getM t ob = getM t (obN P A r all ob0 n) := by
  rcases h with ⟨j, o, a1, a2, a3, a4, a5⟩ | ⟨a1, a2⟩
  · have hj := (hs j o a2 a3).1 a1
    rw [a5]
    exact (obN_keep n (j + 1) (by omega) fun k p b1 b2 b3 b4 => by
      have := a4 k p ((hs k p b3 b4).2 b2) b3 b4
      omega).symm
  · rw [a2]
    exact (obN_keep n 0 (Nat.zero_le _) fun k p _ b2 b3 b4 => a1 k p ((hs k p b3 b4).2 b2) b3 b4).symm
theorem LastT.zero {ob0 : List (Nat × Nat)} {S : Nat → Prop} {t : Nat} (h : LastT P A r all ob0 S ob t) (hz : ∀ n, n ≤ all.length → getM t (obN P A r all ob0 n) = 0) : getM t ob = 0 := by
  rcases h with ⟨j, o, a1, a2, a3, a4, a5⟩ | ⟨a1, a2⟩
  · rw [a5]
    exact hz _ (List.getElem?_eq_some_iff.1 a2).1
  · rw [a2]
    exact hz 0 (Nat.zero_le _)
theorem LastT.step {ob0 : List (Nat × Nat)} {S S' : Nat → Prop} (ho : all[i]? = some o) (hS : ∀ j, S' j ↔ S j ∨ j = i) (h : ∀ t, LastT P A r all ob0 S ob t) (hat : ∀ t ∈ touchL A r i o, getM t ob = getM t (obN P A r all ob0 i)) (hlt : ∀ (k : Nat) (p : Oper) (t : Nat), S k → all[k]? = some p → t ∈ touchL A r k p → t ∈ touchL A r i o → k ≤ i) (t : Nat) :
    LastT P A r all ob0 S' (putM o.dst (maskQ P A r i ob o) (offQ A r i ob o.op)) t := by
  have hm : maskQ P A r i ob o = maskQ P A r i (obN P A r all ob0 i) o := maskQ_like fun t ht => hat t (by unfold touchL; exact List.mem_append_right _ ht)
  by_cases htt : t ∈ touchL A r i o
  · refine .inl ⟨i, o, (hS i).2 (.inr rfl), ho, htt, fun k p hk hp hpt => ?_, ?_⟩
    · rcases (hS k).1 hk with hk | rfl
      · exact hlt k p t hk hp hpt htt
      · exact Nat.le_refl _
    · rw [obN_succ ho, getM_put, getM_put, hm]
      by_cases hd : o.dst = some t
      · rw [if_pos hd, if_pos hd]
      · rw [if_neg hd, if_neg hd]
        have : t ∈ takesL A r i o.op := by
          unfold touchL at htt
          rcases List.mem_append.1 htt with h | h
          · simp at h; exact absurd h hd
          · exact h
        rw [offQ_in this, offQ_in this]
  · have htt' := htt
    unfold touchL at htt'
    simp only [List.mem_append, not_or] at htt'
    have e : getM t (putM o.dst (maskQ P A r i ob o) (offQ A r i ob o.op)) = getM t ob := by
      rw [getM_put, if_neg (fun e => htt'.1 (by rw [e]; simp)), offQ_else htt'.2]
    rcases h t with ⟨j, p, a1, a2, a3, a4, a5⟩ | ⟨a1, a2⟩
    · refine .inl ⟨j, p, (hS j).2 (.inl a1), a2, a3, fun k q hk hq hqt => ?_, by rw [e, a5]⟩
      rcases (hS k).1 hk with hk | rfl
      · exact a4 k q hk hq hqt
      · rw [ho] at hq; cases hq; exact absurd hqt htt
    · refine .inr ⟨fun j p hj hp => ?_, by rw [e, a2]⟩
      rcases (hS j).1 hj with hj | rfl
      · exact a1 j p hj hp
      · rw [ho] at hp; cases hp; exact htt
theorem weakQ {w : World} {g : Gh} {fr : List (Nat × AV)} {tmps : Array Value} {mm : Nat} (hext : ∀ t, exSrc o.op = some t → getM t ob = 0) (hmm : ∀ p, (maskQ P A r i ob o).testBit p = true → mm.testBit p = true) (hf : FR w g fr (putM o.dst mm (offOf A r i ob o.op)) tmps) : FR w g fr (putM o.dst (maskQ P A r i ob o) (offQ A r i ob o.op)) tmps := by
  refine hf.mono (.refl w g) fun t p _ hb => ⟨?_, fun _ hb => ⟨hb, rfl, fun _ h => h⟩⟩
  rw [getM_put] at hb ⊢
  split
  · rename_i hd
    rw [if_pos hd] at hb
    exact hmm p hb
  · rename_i hd
    rw [if_neg hd] at hb
    unfold offQ at hb
    split at hb
    · rename_i x j ho
      cases x with
      | tmp u =>
        have hz := hext u (by rw [ho]; rfl)
        rw [ho]
        simp only [offOf, strict_eq, getM]
        by_cases hu : u = t
        · subst hu; rw [hz] at hb; simp at hb
        · rw [beq_no hu]; exact hb
      | _ => rw [ho]; exact hb
    · exact hb
end
def Gh.lay (g : Gh) (id : Nat) : Gh := ⟨g.own, g.st, fun j => g.rsv j ∧ j ≠ id⟩
def Gh.ahead (g : Gh) (n k : Nat) : Gh := ⟨g.own, g.st, fun j => g.rsv j ∨ n ≤ j ∧ j < n + k⟩
section
variable {P : Program} {w : World} {g : Gh} {h : H} {fr : List (Nat × AV)} {ob : List (Nat × Nat)} {a : Act}
theorem same_mono {g' : Gh} (h1 : g'.own = g.own) (h2 : g'.st = g.st) : Mono w g w g' := ⟨fun _ _ h => ⟨by rw [h2]; exact h, rfl⟩, fun _ _ h => by rw [h1]; exact h⟩
theorem same_keeps {g' : Gh} (h1 : g'.own = g.own) (h2 : g'.st = g.st) (l : Loc) : Keeps w g w g' l l := fun _ h => ⟨by rw [h1]; exact h, rfl, fun _ h => by rw [h2] at h; exact h⟩
theorem same_fr {g' : Gh} (h1 : g'.own = g.own) (h2 : g'.st = g.st) {tmps : Array Value} (hF : FR w g fr ob tmps) : FR w g' fr ob tmps := hF.mono (same_mono h1 h2) fun t p c hb => ⟨hb, same_keeps h1 h2 _⟩
theorem lay_hr {id : Nat} (hH : HR w g h) : HR w (g.lay id) h :=
  ⟨fun i o hi ht => (hH.obj i o hi ht).mono (same_mono (g := g) (g' := g.lay id) rfl rfl) (fun _ _ => ⟨rfl, fun _ h => h⟩) (fun _ => same_keeps (g := g) (g' := g.lay id) rfl rfl _), hH.inj, hH.lt, hH.bd, hH.stlt, fun b i h1 h2 => hH.rsv b i h1 h2.1, fun i h1 => hH.rlt i h1.1⟩
theorem lay_ev {id : Nat} {w0 : World} {g0 : Gh} (ev : Ev w0 g0 w g) (hid : ¬ g0.rsv id) : Ev w0 g0 w (g.lay id) := ⟨ev.size, ev.st, ev.obj, ev.old, ev.os, ev.out, fun j hj => ⟨ev.rsv j hj, fun e => hid (e ▸ hj)⟩⟩
theorem ahead_hr (hH : HR w g h) (l : List AObj) : HR w (g.ahead h.length l.length) (h ++ l) := by
  refine ⟨fun i o hi ht => ?_, hH.inj, hH.lt, fun b id h1 => by have := hH.bd b id h1; simp; omega, hH.stlt, fun b i h1 h2 => ?_, fun i h1 => ?_⟩
  · obtain ⟨b, hb⟩ := ht
    have := hH.bd b i hb
    rw [List.getElem?_append_left this] at hi
    exact (hH.obj i o hi ⟨b, hb⟩).mono (same_mono (g := g) (g' := g.ahead h.length l.length) rfl rfl) (fun _ _ => ⟨rfl, fun _ h => h⟩) (fun _ => same_keeps (g := g) (g' := g.ahead h.length l.length) rfl rfl _)
  · rcases h2 with h2 | h2
    · exact hH.rsv b i h1 h2
    · have := hH.bd b i h1; omega
  · rcases h1 with h1 | h1
    · have := hH.rlt i h1; simp; omega
    · simp; omega
theorem ahead_ev (n k : Nat) : Ev w g w (g.ahead n k) := ⟨Nat.le_refl _, fun _ _ h => ⟨h, rfl⟩, fun _ _ h => h, fun _ _ h => ⟨h, rfl, fun _ h => h⟩, rfl, rfl, fun _ h => .inl h⟩
theorem slotPos_ge {r i : Nat} : ∀ {l : List (Nat × Nat)} {n m : Nat}, slotPos r i l n = some m → n ≤ m
  | [], n, m, h => by cases h
  | p :: l, n, m, h => by
    unfold slotPos at h
    cases h1 : Nat.beq p.1 r with
    | false => rw [h1] at h; exact slotPos_ge (l := l) h
    | true =>
      rw [h1] at h
      cases h2 : Nat.beq p.2 i with
      | true => rw [h2] at h; simp at h; omega
      | false => rw [h2] at h; have := slotPos_ge (l := l) h; omega
theorem slotPos_inj {r i i' : Nat} : ∀ {l : List (Nat × Nat)} {n m : Nat}, slotPos r i l n = some m → slotPos r i' l n = some m → i = i'
  | [], n, m, h, _ => by cases h
  | p :: l, n, m, h, h' => by
    unfold slotPos at h h'
    cases h1 : Nat.beq p.1 r with
    | false => rw [h1] at h h'; exact slotPos_inj (l := l) h h'
    | true =>
      rw [h1] at h h'
      simp only [cond_true] at h h'
      cases h2 : Nat.beq p.2 i with
      | true =>
        rw [h2] at h
        simp at h
        subst h
        cases h3 : Nat.beq p.2 i' with
        | true => rw [← Nat.eq_of_beq_eq_true h2, ← Nat.eq_of_beq_eq_true h3]
        | false => rw [h3] at h'; have := slotPos_ge (l := l) h'; omega
      | false =>
        rw [h2] at h
        simp only [cond_false] at h
        cases h3 : Nat.beq p.2 i' with
        | true => rw [h3] at h'; simp at h'; subst h'; have := slotPos_ge (l := l) h; omega
        | false => rw [h3] at h'; exact slotPos_inj (l := l) h h'
theorem slotPos_lt {r i : Nat} : ∀ {l : List (Nat × Nat)} {n m : Nat}, slotPos r i l n = some m → m < n + (l.filter fun p => Nat.beq p.1 r).length
  | [], n, m, h => by cases h
  | p :: l, n, m, h => by
    unfold slotPos at h
    cases h1 : Nat.beq p.1 r with
    | false => rw [h1] at h; rw [List.filter_cons_of_neg (p := fun p : Nat × Nat => Nat.beq p.1 r) (by rw [h1]; simp)]; exact slotPos_lt (l := l) h
    | true =>
      rw [h1] at h
      rw [List.filter_cons_of_pos (p := fun p : Nat × Nat => Nat.beq p.1 r) h1]
      simp only [List.length_cons]
      cases h2 : Nat.beq p.2 i with
      | true => rw [h2] at h; simp at h; omega
      | false => rw [h2] at h; have := slotPos_lt (l := l) h; omega
theorem New.hr_slot {o : Obj} {S : Nat → Prop} {w' : World} {g' : Gh} {i : Nat} (n : New w g o (some (.obj i)) S w' g') (hH : HR w g h) (hu : ∀ b, g.own b ≠ some (.obj i)) (hr : ¬ g.rsv i) {ob : AObj} (hi : h[i]? = some ob) (hob : ObjRep w' g' i ob) : HR w' g' h where
  obj id o' hid ht := by
    by_cases he : id = i
    · subst he; rw [hi] at hid; cases hid; exact hob
    · exact n.objs hH (hH.obj id o' hid (by
        obtain ⟨b, hb⟩ := ht
        rw [n.own] at hb
        simp only at hb
        split at hb
        · cases hb; exact absurd rfl he
        · exact ⟨b, hb⟩))
  inj b b' id h1 h2 := by
    rw [n.own] at h1 h2
    simp only at h1 h2
    split at h1
    · split at h2
      · omega
      · cases h1; exact absurd h2 (hu _)
    · split at h2
      · cases h2; exact absurd h1 (hu _)
      · exact hH.inj b b' id h1 h2
  lt b l h1 := by
    rw [n.own] at h1
    rw [n.heap, Array.size_push]
    simp only at h1
    split at h1
    · omega
    · have := hH.lt b l h1; omega
  bd b id h1 := by
    rw [n.own] at h1
    simp only at h1
    split at h1
    · cases h1; exact (List.getElem?_eq_some_iff.1 hi).1
    · exact hH.bd b id h1
  stlt b k h0 := by
    have h1 : if b = w.heap.size then S k else g.st b k := by rw [n.st] at h0; exact h0
    rw [n.heap, Array.size_push]
    split at h1
    · omega
    · have := hH.stlt b k h1; omega
  rsv b id h1 := by
    rw [n.own] at h1
    rw [n.rsv]
    simp only at h1
    split at h1
    · cases h1; exact hr
    · exact hH.rsv b id h1
  rlt id h1 := by rw [n.rsv] at h1; exact hH.rlt id h1
theorem alloc_slot (hH : HR w g h) (hF : FR w g fr ob a.tmps) {o : Oper} {t : TypeId} (ho : o.op = .alloc t) {z : AV} (hz : zero P t = some z) (hone : z.cells.all AV.one = true) {id : Nat} {v : AV} (he : slotOp id z.cells h = some v) (hr : g.rsv id) : OpOk P a o fr ob 0 v h w (g.lay id) := by
  unfold slotOp at he
  split at he
  · rename_i cs' hid
    cases hc : eqbL cs' z.cells with
    | false => rw [hc] at he; cases he
    | true =>
      rw [hc] at he
      simp only [cond_true, Option.some.injEq] at he
      subst he
      have := eqbL_eq hc
      subst this
      obtain ⟨zv, hzr, _, hz0, _⟩ := zero_sound (P := P) (w := w) (g := g.lay id) (wh := fun _ c => some (.cell id c)) hz
      have n := new_mk w (g.lay id) (.cells zv.cells t) (some (.obj id)) (fun _ => False)
      obtain ⟨c1, c2⟩ := hz0.cells hone
      have hH2 := lay_hr (id := id) hH
      have hF2 : FR w (g.lay id) fr ob a.tmps := same_fr (g := g) (g' := g.lay id) rfl rfl hF
      refine ⟨_, _, _, _, by simp [execOp, ho, Instr.alloc, hzr, newVar, newRow]; rfl, .inl rfl, n.ev hH2, n.hr_slot hH2 (fun b hb => hH.rsv b id hb hr) (fun hx => hx.2 rfl) hid ?_, n.fr hH2 hF2, ptr_ok (by rw [n.own]; simp)⟩
      refine arr_rep (b := w.heap.size) (by rw [n.own]; simp) n.at_new c1 (fun j c v hj hv => ⟨(c2 j c v hj hv).1, n.rep hH2 (c2 j c v hj hv).2⟩) (fun k hk => by rw [n.st] at hk; simp at hk)
  · cases he
end
section
variable {P : Program} {ob0 : List (Nat × Nat)}
theorem regionQ_sound {D : List Deferred} {call : Cl} (hcall : CallOk P call) {A : FAnn} {r : Nat} {ops : Array Oper} (ck : Chk P A r ops.toList ob0) {fr2 : List (Nat × AV)} {h2 : H} {w0 : World} {g0 : Gh} (hg0 : ∀ id, g0.rsv id → id < A.base) {Q : Exit → Act → World → Prop}
    (hfin : ∀ a w g, FR w g fr2 (obN P A r ops.toList ob0 ops.toList.length) a.tmps → HR w g h2 → A.nt ≤ a.tmps.size → a.defers = D → Ev w0 g0 w g → Q .normal a w) : ∀ (l : List Nat) (S : Nat → Prop) (fr : List (Nat × AV)) (ob : List (Nat × Nat)) (h : H) (a : Act) (w : World) (g : Gh),
    Valid ops.toList l S → (∀ j o, S j → ops.toList[j]? = some o → ∀ i ∈ directs o, S i) → (∀ t, LastT P A r ops.toList ob0 S ob t) → (∀ (j : Nat) p t m, ¬ S j → ops.toList[j]? = some p → p.op = .alloc t → slotPos r j A.obj 0 = some m → g.rsv (A.base + m)) →
    regionQ P A call r ops.toList (obN P A r ops.toList ob0) (fun fr h => some (fr, h)) (orderedL ops.toList l) fr h = some (fr2, h2) → FR w g fr ob a.tmps → HR w g h → A.nt ≤ a.tmps.size → a.defers = D → Ev w0 g0 w g → wpOps P ops Q l a w
  | [], S, fr, ob, h, a, w, g, hv, hdir, hot, hres, he, hF, hH, hn, hd, ev => by
    cases he
    refine hfin a w g (hF.mono (.refl w g) fun t p _ hb => ⟨?_, fun _ hb => ⟨hb, rfl, fun _ h => h⟩⟩) hH hn hd ev
    rw [(hot t).at (n := ops.toList.length) fun j o ho _ => ⟨fun _ => (List.getElem?_eq_some_iff.1 ho).1, fun hlt => hv j hlt⟩]
    exact hb
  | i :: l, S, fr, ob, h, a, w, g, hv, hdir, hot, hres, he, hF, hH, hn, hd, ev => by
    obtain ⟨hi, ⟨o, hoL, hdo⟩, hv⟩ := hv
    unfold wpOps
    have hio : ops[i]? = some o := by rw [← Array.getElem?_toList]; exact hoL
    simp only [orderedL, List.filterMap_cons, hoL, Option.map_some, regionQ] at he
    rw [stepQ_eq, Option.bind_eq_some_iff] at he
    obtain ⟨⟨v, h'⟩, hs, he⟩ := he
    simp only at he
    have he : regionQ P A call r ops.toList (obN P A r ops.toList ob0) (fun fr h => some (fr, h)) (orderedL ops.toList l) (putV A.nt o.dst v fr) h' = some (fr2, h2) := he
    have hmem : o ∈ ops.toList := List.mem_of_getElem? hoL
    have closed : ∀ k, S k → ∀ j, bef ops.toList k j = true → S j := bef_closed hdir
    have dir' : ∀ j p, (S j ∨ j = i) → ops.toList[j]? = some p → ∀ k ∈ directs p, S k ∨ k = i := by
      intro j p hj hp k hk
      rcases hj with hj | rfl
      · exact .inl (hdir j p hj hp k hk)
      · rw [hoL] at hp; cases hp; exact .inl (hdo k hk)
    have closed' : ∀ j, bef ops.toList i j = true → j ≠ i → S j := by
      intro j hj hji
      rcases bef_closed dir' i (.inr rfl) j hj with h | h
      · exact h
      · exact absurd h hji
    have hat : ∀ t ∈ touchL A r i o, getM t ob = getM t (obN P A r ops.toList ob0 i) := by
      intro t ht
      refine (hot t).at fun j p hp hpt => ⟨fun hS => ?_, fun hlt => closed' j (ck.touch j i p o hp hoL hlt t hpt ht) (by omega)⟩
      rcases Nat.lt_trichotomy j i with h | h | h
      · exact h
      · subst h; exact absurd hS hi
      · exact absurd (closed j hS i (ck.touch i j o p hoL hp h t ht hpt)) hi
    have hstep := LastT.step hoL (fun j => Iff.rfl) hot hat fun k p t hk hp hpt hot' => by
      rcases Nat.lt_or_ge i k with hlt | hge
      · exact absurd (closed k hk i (ck.touch i k o p hoL hp hlt t hot' hpt)) hi
      · exact hge
    have hext : ∀ t, exSrc o.op = some t → getM t ob = 0 := fun t ht => (hot t).zero (ck.ext i o t hoL ht)
    rw [← stp_ob (ob := ob) fun t ht => hat t (by unfold touchL; exact List.mem_append_right _ ht)] at hs
    simp only [hio]
    have go : ∀ (a' : Act) (w' : World) (g' : Gh), FR w' g' (putV A.nt o.dst v fr) (putM o.dst (maskQ P A r i ob o) (offQ A r i ob o.op)) a'.tmps → HR w' g' h' → A.nt ≤ a'.tmps.size → a'.defers = D → Ev w0 g0 w' g' → (∀ (j : Nat) p t m, ¬ (S j ∨ j = i) → ops.toList[j]? = some p → p.op = .alloc t → slotPos r j A.obj 0 = some m → g'.rsv (A.base + m)) → wpOps P ops Q l a' w' :=
      fun a' w' g' f1 f2 f3 f4 f5 f6 => regionQ_sound hcall ck hg0 hfin l _ _ _ _ a' w' g' hv dir' hstep f6 he f1 f2 f3 f4 f5
    have resE : ∀ {w' : World} {g' : Gh}, Ev w g w' g' → ∀ (j : Nat) p t m, ¬ (S j ∨ j = i) → ops.toList[j]? = some p → p.op = .alloc t → slotPos r j A.obj 0 = some m → g'.rsv (A.base + m) :=
      fun f j p t m hj hp ht hm => f.rsv _ (hres j p t m (fun h => hj (.inl h)) hp ht hm)
    have skip : h' = h → v = .tuple [] → wpOps P ops Q l (a.put o.dst undef) w := by
      rintro rfl rfl
      exact go _ w g (weakQ hext (fun _ h => h) ((hF.skip A r i o.op).put hn undef_rep)) hH (by rw [put_size]; exact hn) (by rw [put_defers]; exact hd) ev (resE (.refl w g))
    have done : ∀ {m : Nat}, OpOk P a o fr (offOf A r i ob o.op) m v h' w g → (∀ p, (maskQ P A r i ob o).testBit p = true → m.testBit p = true) → o.wp P a w (wpOps P ops Q l) Q := by
      intro m hk hmm
      exact wp_opOk hk hn fun a' w' g' f1 f2 f3 f4 f5 => go a' w' g' (weakQ hext hmm f1) f2 f4 (by rw [f5]; exact hd) (ev.trans f3) (resE f3)
    have hmask : (∀ f args, kindOf A r i o.op ≠ .call f args) → ∀ p, (maskQ P A r i ob o).testBit p = true → (maskOf A r i ob o.op).testBit p = true := by
      intro hnc p hb
      unfold maskQ at hb
      split at hb
      · simp at hb
      · rename_i ho
        exact absurd (show kindOf A r i o.op = .call _ _ by rw [ho]; rfl) (hnc _ _)
      · exact hb
    have split2 : ∀ {want : Bool}, Region.wanted o (yielded ops a.tmps) = want → (want = true → o.wp P a w (wpOps P ops Q l) Q) → (want = false → wpOps P ops Q l (a.put o.dst undef) w) →
        (if Region.wanted o (yielded ops a.tmps) = true then o.wp P a w (wpOps P ops Q l) Q ∨ (o.asks P a w ∧ LetsOut Q) else wpOps P ops Q l (a.put o.dst undef) w) := by
      intro want hw h1 h2
      rw [hw]
      cases want with
      | true => rw [if_pos rfl]; exact .inl (h1 rfl)
      | false => rw [if_neg (by simp)]; exact h2 rfl
    unfold stp stepQ at hs
    split at hs
    · rename_i hk
      have hmq := hmask (fun f args e => by rw [hk] at e; cases e)
      split at hs
      · rename_i v' hg hv
        cases hs
        exact split2 (want := true) (by simp [Region.wanted, hg]) (fun _ => done (op_tot hH hF hv) hmq) (by simp)
      · simp only [Option.bind_eq_some_iff] at hs
        obtain ⟨v', hv, hs⟩ := hs
        cases hs
        rcases gated_cases hv hF with ⟨hw, hx⟩ | ⟨hw, rfl⟩
        · exact split2 hw (fun _ => done (op_tot hH hF hx) hmq) (by simp)
        · exact split2 hw (by simp) (fun _ => skip rfl rfl)
      · cases hs
    · rename_i hk
      have hmq := hmask (fun f args e => by rw [hk] at e; cases e)
      split at hs
      · rename_i p hg hp
        cases hs
        exact split2 (want := true) (by simp [Region.wanted, hg]) (fun _ => done (op_new hH hF hp) hmq) (by simp)
      · simp only [Option.bind_eq_some_iff] at hs
        obtain ⟨p, hp, hs⟩ := hs
        cases hs
        rcases gated_cases hp hF with ⟨hw, hx⟩ | ⟨hw, hy⟩
        · exact split2 hw (fun _ => done (op_new hH hF hx) hmq) (by simp)
        · exact split2 hw (by simp) (fun _ => skip (by rw [hy]) (by rw [hy]))
      · cases hs
    · rename_i hk
      have hmq := hmask (fun f args e => by rw [hk] at e; cases e)
      simp only [Option.bind_eq_some_iff] at hs
      obtain ⟨v', hv, hs⟩ := hs
      cases hs
      rcases gated_cases hv hF with ⟨hw, hx⟩ | ⟨hw, rfl⟩
      · by_cases hal : ∃ t, o.op = .alloc t
        · obtain ⟨t, hal⟩ := hal
          refine split2 hw (fun _ => ?_) (by simp)
          rw [hal] at hx
          simp only [valOp] at hx
          cases hdr : A.drawn with
          | false => rw [hdr] at hx; cases hx
          | true =>
            rw [hdr] at hx
            simp only [cond_true] at hx
            split at hx
            · rename_i n z hn2 hz
              cases hone : z.cells.all AV.one with
              | false => rw [hone] at hx; cases hx
              | true =>
                rw [hone] at hx
                simp only [cond_true] at hx
                have hrs := hres i o t n hi hoL hal hn2
                have hk2 := alloc_slot (P := P) (a := a) (ob := ob) hH hF hal hz hone hx hrs
                refine wp_opOk hk2 hn fun a' w' g' f1 f2 f3 f4 f5 => go a' w' g' (weakQ hext (mm := 0) (fun p hb => by unfold maskQ at hb; rw [hal] at hb; exact hb) (by rw [hal]; exact f1)) f2 f4 (by rw [f5]; exact hd) ((lay_ev ev fun h0 => by have := hg0 _ h0; omega).trans f3) fun j p t' m hj hp ht hm => f3.rsv _ ⟨hres j p t' m (fun h => hj (.inl h)) hp ht hm, fun e => ?_⟩
                have : m = n := by omega
                subst this
                exact hj (.inr (slotPos_inj hm hn2))
            · cases hx
        · exact split2 hw (fun _ => done (op_val hH hF (.inr fun t ht => hal ⟨t, ht⟩) hk hx) hmq) (by simp)
      · exact split2 hw (by simp) (fun _ => skip rfl rfl)
    · rename_i hk
      have hmq := hmask (fun f args e => by rw [hk] at e; cases e)
      simp only [Option.bind_eq_some_iff] at hs
      obtain ⟨p, hp, hs⟩ := hs
      cases hs
      rcases gated_cases hp hF with ⟨hw, hx⟩ | ⟨hw, hy⟩
      · exact split2 hw (fun _ => done (op_heap hH hF hk hx) hmq) (by simp)
      · exact split2 hw (by simp) (fun _ => skip (by rw [hy]) (by rw [hy]))
    · rename_i f args hk
      simp only [Option.bind_eq_some_iff] at hs
      obtain ⟨p, hp, hs⟩ := hs
      obtain ⟨c, ho, hc, hca⟩ := call_of hk
      obtain ⟨e, ph⟩ := p
      cases e with
      | pan x => cases hs
      | ret x =>
        cases hs
        rcases gated_cases hp hF with ⟨hw, hx⟩ | ⟨hw, hy⟩
        · refine split2 hw (fun _ => ?_) (by simp)
          rw [← hca] at hx
          refine wp_call hcall hH hF ho hc hx hn (fun a' w' g' v' e1 f1 f2 f3 f4 f5 => ?_) (fun w' g' v' u e1 => by cases e1)
          cases e1
          refine go a' w' g' (weakQ hext (mm := full) (fun p hb => ?_) (by rw [off_call hk]; exact f1)) f2 f4 (by rw [f5]; exact hd) (ev.trans f3) (resE f3)
          unfold maskQ at hb
          split at hb
          · simp at hb
          · cases hsl : isSlice P o.type with
            | true => rw [hsl] at hb; exact hb
            | false => rw [hsl] at hb; simp at hb
          · rename_i hne
            exact absurd (show o.op = .call { callee := .value f, args := c.args, argTypes := c.argTypes } by rw [ho]; obtain ⟨x1, x2, x3⟩ := c; simp only at hc; subst hc; rfl) (hne _ _ _)
        · refine split2 hw (by simp) (fun _ => ?_)
          cases hy
          exact skip rfl rfl
    · cases hs
    · cases hs
end
end Go.Ve
