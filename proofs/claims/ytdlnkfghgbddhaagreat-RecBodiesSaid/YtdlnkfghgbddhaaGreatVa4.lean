/- VE: regions whose order is drawn: in the machine. -/
import Derived.Test.YtdlnkfghgbddhaaGreatVa3
import Derived.Scope
import Derived.Recover
set_option linter.all false

namespace Go.Ve
open Go

/-! ### the orders that are drawn -/
theorem filter_less {p p' : Nat → Bool} {i : Nat} (hpp : ∀ x, p' x = true → p x = true) (hi : p i = true) (hi' : p' i = false) : ∀ l : List Nat, i ∈ l → (l.filter p').length < (l.filter p).length := by
  have le : ∀ l : List Nat, (l.filter p').length ≤ (l.filter p).length := by
    intro l
    induction l with
    | nil => simp
    | cons x l ih =>
      simp only [List.filter_cons]
      cases h1 : p' x with
      | true => simp [hpp x h1]; exact ih
      | false => cases p x <;> simp <;> omega
  intro l
  induction l with
  | nil => intro h; simp at h
  | cons x l ih =>
    intro h
    simp only [List.filter_cons]
    by_cases hx : x = i
    · subst hx
      have := le l
      simp [hi, hi']; omega
    · have hm : i ∈ l := by simpa [Ne.symm hx] using h
      have := ih hm
      cases h1 : p' x with
      | true => simp [hpp x h1]; exact this
      | false => cases p x <;> simp <;> omega

theorem Valid.mono_eq {all : List Oper} {l : List Nat} {S S' : Nat → Prop} (h : ∀ i, S i ↔ S' i) (hv : Valid all l S) : Valid all l S' := by
  have : S = S' := funext fun i => propext (h i)
  rwa [← this]

theorem go_valid {ops : Array Oper} (hed : ∀ (i : Nat) o, ops.toList[i]? = some o → ∀ j ∈ directs o, j < i) : ∀ (fuel t : Nat) (listed : Array Bool), listed.size = ops.size →
    ((List.range ops.size).filter fun i => !listed.getD i true).length ≤ fuel → Valid ops.toList (Region.linearise.go .any ops fuel t listed []) fun j => listed.getD j false = true := by
  have fin : ∀ (listed : Array Bool), listed.size = ops.size → (∀ i, i ∉ (List.range ops.size).filter fun i => !listed.getD i true && ((ops[i]?).map (·.after.all fun e => !Region.binds .any e || listed.getD e.on false)).getD false) → ∀ i, i < ops.toList.length → listed.getD i false = true := by
    intro listed hsz hnone i
    induction i using Nat.strongRecOn with
    | ind i ih =>
      intro hi
      rw [Array.length_toList] at hi
      cases hl : listed.getD i false with
      | true => rfl
      | false =>
        refine absurd ?_ (hnone i)
        rw [List.mem_filter, List.mem_range]
        refine ⟨hi, ?_⟩
        have hl2 : listed.getD i true = false := by
          simp [hsz, hi] at hl ⊢
          exact hl
        rw [hl2]
        simp only [Bool.not_false, Bool.true_and, Array.getElem?_eq_getElem hi, Option.map_some, Option.getD_some]
        rw [Array.all_eq_true_iff_forall_mem]
        intro e he
        cases hb : Region.binds .any e with
        | false => simp
        | true =>
          have hlt := hed i ops[i] (by simp [hi]) e.on (List.mem_map.2 ⟨e, List.mem_filter.2 ⟨by simpa using he, hb⟩, rfl⟩)
          simp [ih e.on hlt (by rw [Array.length_toList]; omega)]
  intro fuel
  induction fuel with
  | zero =>
    intro t listed hsz hle
    simp only [Region.linearise.go, List.reverse_nil]
    refine fin listed hsz fun i hi => ?_
    rw [List.mem_filter] at hi
    have hm : i ∈ (List.range ops.size).filter fun i => !listed.getD i true := by
      rw [List.mem_filter]
      exact ⟨hi.1, by have := hi.2; simp only [Bool.and_eq_true] at this; exact this.1⟩
    have : (List.range ops.size).filter (fun i => !listed.getD i true) = [] := List.length_eq_zero_iff.1 (by omega)
    rw [this] at hm
    cases hm
  | succ fuel ih =>
    intro t listed hsz hle
    simp only [Region.linearise.go]
    generalize hrs : ((List.range ops.size).filter fun i => !listed.getD i true && ((ops[i]?).map (·.after.all fun e => !Region.binds .any e || listed.getD e.on false)).getD false) = rs
    cases hi : rs[t % rs.length]? with
    | none =>
      have hnil : rs = [] := by
        cases rs with
        | nil => rfl
        | cons x xs =>
          have hlt : t % (x :: xs).length < (x :: xs).length := Nat.mod_lt _ (by simp)
          rw [List.getElem?_eq_none_iff] at hi
          omega
      simp only [List.reverse_nil]
      refine fin listed hsz fun i => ?_
      rw [hrs, hnil]; simp
    | some i =>
      simp only []
      rw [linearise_go_acc, List.reverse_singleton, List.singleton_append]
      have hm := List.mem_of_getElem? hi
      rw [← hrs, List.mem_filter, List.mem_range] at hm
      obtain ⟨hin, hm⟩ := hm
      simp only [Bool.and_eq_true, Bool.not_eq_true', Array.getElem?_eq_getElem hin, Option.map_some, Option.getD_some, Array.all_eq_true_iff_forall_mem] at hm
      have hunl : listed.getD i false = false := by
        have := hm.1
        simp [hsz, hin] at this ⊢
        exact this
      refine ⟨by simp [hunl], ⟨ops[i], by simp [hin], ?_⟩, ?_⟩
      · intro j hj
        unfold directs at hj
        rw [List.mem_map] at hj
        obtain ⟨e, he, rfl⟩ := hj
        rw [List.mem_filter] at he
        have h2 := hm.2 e (by simpa using he.1)
        simpa [he.2] using h2
      · refine Valid.mono_eq (fun j => ?_) (ih (t / rs.length) (listed.setIfInBounds i true) (by simp [hsz]) ?_)
        · by_cases hji : j = i
          · subst hji
            simp [hsz, hin]
          · simp [Ne.symm hji, hji]
        · have := filter_less (p := fun j => !listed.getD j true) (p' := fun j => !(listed.setIfInBounds i true).getD j true) (i := i) ?_ (by simp [hm.1]) (by simp [hsz, hin]) (List.range ops.size) (by simpa using hin)
          · omega
          · intro x hx
            by_cases hxi : x = i
            · subst hxi; simp [hsz, hin] at hx
            · simp [Ne.symm hxi] at hx ⊢
              exact hx

theorem schedule_valid {ops : Array Oper} {mixed : Bool} (hmix : mixed = true) (hed : ∀ (i : Nat) o, ops.toList[i]? = some o → ∀ j ∈ directs o, j < i) (t : Nat) : Valid ops.toList (Region.schedule mixed ops t) fun _ => False := by
  have lin : ∀ t, Valid ops.toList (Region.linearise .any ops t) fun _ => False := by
    intro t
    refine Valid.mono_eq (fun i => ?_) (go_valid hed ops.size t (Array.replicate ops.size false) (by simp) ?_)
    · simp only [Array.getD_eq_getD_getElem?, Array.getElem?_replicate]
      split <;> simp
    · exact Nat.le_trans (List.length_filter_le _ _) (by simp)
  unfold Region.schedule
  simp only [hmix, Bool.true_or, if_true]
  exact lin t

/-! ### rooms, whatever the order -/
section
variable {P : Program} {A : FAnn} {r i : Nat} {call : Cl} {all : List Oper} {ob ob' : List (Nat × Nat)} {o : Oper}

theorem getM_obOff_else {x : Operand} {t : Nat} (ht : t ∉ takeT A r i x) : getM t (obOff A r i ob x) = getM t ob := by
  cases x with
  | tmp u =>
    simp only [obOff, takeT] at ht ⊢
    cases hb : A.takes r i u with
    | false => rfl
    | true =>
      rw [hb] at ht
      simp only [cond_true, List.mem_singleton] at ht
      simp only [cond_true, getM, beq_no (Ne.symm ht), cond_false]
  | _ => rfl
theorem getM_obOff_in {x : Operand} {t : Nat} (ht : t ∈ takeT A r i x) : getM t (obOff A r i ob x) = 0 := by
  cases x with
  | tmp u =>
    simp only [obOff, takeT] at ht ⊢
    cases hb : A.takes r i u with
    | false => rw [hb] at ht; simp at ht
    | true =>
      rw [hb] at ht
      simp only [cond_true, List.mem_singleton] at ht
      subst ht
      simp [getM]
  | _ => simp [takeT] at ht
theorem offQ_else {t : Nat} {op : Op} (ht : t ∉ takesL A r i op) : getM t (offQ A r i ob op) = getM t ob := by
  unfold offQ
  split
  · rfl
  · rename_i hne
    unfold offOf
    split
    · exact getM_obOff_else (by simpa [takesL] using ht)
    · exact getM_obOff_else (by simpa [takesL] using ht)
    · exact getM_obOff_else (by simpa [takesL] using ht)
    · exact getM_obOff_else (by simpa [takesL] using ht)
    · split
      · rename_i x xs hx
        exact getM_obOff_else (by simpa [takesL, hx] using ht)
      · rfl
    · exact absurd rfl (hne _ _)
    · rfl
theorem offQ_in {t : Nat} {op : Op} (ht : t ∈ takesL A r i op) : getM t (offQ A r i ob op) = 0 := by
  cases op <;> try (simp [takesL] at ht; done)
  case move x => exact getM_obOff_in ht
  case assign x => exact getM_obOff_in ht
  case box t' x => exact getM_obOff_in ht
  case store t' a x => exact getM_obOff_in ht
  case call c =>
    obtain ⟨callee, args, tys⟩ := c
    cases callee with
    | value f => simp [takesL] at ht
    | invoke rr m => simp [takesL] at ht
    | builtin b =>
      cases b <;> try (simp [takesL] at ht; done)
      simp only [takesL] at ht
      show getM t (match args.toList with | x :: _ => obOff A r i ob x | _ => ob) = 0
      split at ht
      · rename_i x xs hx
        rw [hx]
        exact getM_obOff_in ht
      · cases ht

theorem mOf_like {x : Operand} (h : ∀ t ∈ takeT A r i x, getM t ob = getM t ob') : mOf A r i ob x = mOf A r i ob' x := by
  cases x with
  | tmp u =>
    simp only [mOf, takeT] at h ⊢
    cases hb : A.takes r i u with
    | false => rfl
    | true =>
      rw [hb] at h
      exact h u (by simp)
  | _ => rfl
theorem maskQ_like (h : ∀ t ∈ takesL A r i o.op, getM t ob = getM t ob') : maskQ P A r i ob o = maskQ P A r i ob' o := by
  unfold maskQ
  split
  · rfl
  · rfl
  · rename_i hne _
    unfold maskOf
    split
    · rename_i ho; exact mOf_like (by rw [ho] at h; exact h)
    · rename_i ho; exact mOf_like (by rw [ho] at h; exact h)
    · rfl
    · rfl
    · rfl
    · rfl
    · rfl
    · rename_i ho; exact absurd ho (hne _ _)
    · rfl
theorem valOp_ob {fr : List (Nat × AV)} {h : H} (hh : ∀ t ∈ takesL A r i o.op, getM t ob = getM t ob') : valOp P A r i fr ob h o.op = valOp P A r i fr ob' h o.op := by
  cases ho : o.op <;> try rfl
  rename_i c
  rw [ho] at hh
  obtain ⟨callee, args, tys⟩ := c
  cases callee with
  | value f => rfl
  | invoke rr m => rfl
  | builtin b =>
    cases b <;> try rfl
    simp only [valOp]
    split
    · rename_i x y t t2 hx ht
      rw [mOf_like (x := x) (ob := ob) (ob' := ob')]
      intro u hu
      refine hh u ?_
      simp only [takesL, hx]
      exact hu
    · rfl
theorem heapOp_ob {fr : List (Nat × AV)} {h : H} (hh : ∀ t ∈ takesL A r i o.op, getM t ob = getM t ob') : heapOp P A r i fr ob h o.op = heapOp P A r i fr ob' h o.op := by
  cases ho : o.op <;> try rfl
  · rw [ho] at hh
    simp only [heapOp]
    rw [mOf_like hh]
  · rw [ho] at hh
    simp only [heapOp]
    rw [mOf_like hh]
theorem stp_ob {fr : List (Nat × AV)} {h : H} (hh : ∀ t ∈ takesL A r i o.op, getM t ob = getM t ob') : stp P A call r all ob i o fr h = stp P A call r all ob' i o fr h := by
  unfold stp stepQ
  rw [valOp_ob hh, heapOp_ob hh]

theorem obN_succ {n : Nat} (ho : all[n]? = some o) : obN P A r all ob (n + 1) = putM o.dst (maskQ P A r n (obN P A r all ob n) o) (offQ A r n (obN P A r all ob n) o.op) := by
  simp only [obN, ho]
theorem getM_put {t m : Nat} (d : Option Tmp) (ob : List (Nat × Nat)) : getM t (putM d m ob) = if d = some t then m else getM t ob := by
  cases d with
  | none => rfl
  | some d =>
    simp only [putM, getM]
    by_cases h : d = t
    · subst h; simp
    · rw [beq_no h]; simp [h]
theorem obN_keep {t : Nat} : ∀ (n m : Nat), m ≤ n → (∀ (k : Nat) o, m ≤ k → k < n → all[k]? = some o → t ∉ touchL A r k o) → getM t (obN P A r all ob n) = getM t (obN P A r all ob m)
  | 0, m, h1, _ => by rw [show m = 0 by omega]
  | n + 1, m, h1, h2 => by
    by_cases hm : m = n + 1
    · rw [hm]
    · rw [← obN_keep n m (by omega) fun k o a b => h2 k o a (by omega)]
      cases ho : all[n]? with
      | none => simp only [obN, ho]
      | some o =>
        have hn := h2 n o (by omega) (by omega) ho
        unfold touchL at hn
        simp only [List.mem_append, not_or] at hn
        rw [obN_succ ho, getM_put, if_neg (fun e => hn.1 (by rw [e]; simp)), offQ_else hn.2]

/-- The rooms of a temporary are what the last one of those that are done has left. -/
def LastT (P : Program) (A : FAnn) (r : Nat) (all : List Oper) (ob0 : List (Nat × Nat)) (S : Nat → Prop) (ob : List (Nat × Nat)) (t : Nat) : Prop :=
  (∃ (j : Nat) (o : Oper), S j ∧ all[j]? = some o ∧ t ∈ touchL A r j o ∧ (∀ (k : Nat) (p : Oper), S k → all[k]? = some p → t ∈ touchL A r k p → k ≤ j) ∧ getM t ob = getM t (obN P A r all ob0 (j + 1))) ∨
  ((∀ (j : Nat) (o : Oper), S j → all[j]? = some o → t ∉ touchL A r j o) ∧ getM t ob = getM t ob0)

theorem LastT.at {ob0 : List (Nat × Nat)} {S : Nat → Prop} {t n : Nat} (h : LastT P A r all ob0 S ob t) (hs : ∀ (j : Nat) (o : Oper), all[j]? = some o → t ∈ touchL A r j o → (S j ↔ j < n)) : getM t ob = getM t (obN P A r all ob0 n) := by
  rcases h with ⟨j, o, a1, a2, a3, a4, a5⟩ | ⟨a1, a2⟩
  · have hj := (hs j o a2 a3).1 a1
    rw [a5]
    exact (obN_keep n (j + 1) (by omega) fun k p b1 b2 b3 b4 => by
      have := a4 k p ((hs k p b3 b4).2 b2) b3 b4
      omega).symm
  · rw [a2]
    exact (obN_keep n 0 (Nat.zero_le _) fun k p _ b2 b3 b4 => a1 k p ((hs k p b3 b4).2 b2) b3 b4).symm
theorem LastT.zero {ob0 : List (Nat × Nat)} {S : Nat → Prop} {t : Nat} (h : LastT P A r all ob0 S ob t) (hz : ∀ n, n ≤ all.length → getM t (obN P A r all ob0 n) = 0) : getM t ob = 0 := by
  rcases h with ⟨j, o, a1, a2, a3, a4, a5⟩ | ⟨a1, a2⟩
  · rw [a5]
    exact hz _ (List.getElem?_eq_some_iff.1 a2).1
  · rw [a2]
    exact hz 0 (Nat.zero_le _)
theorem LastT.step {ob0 : List (Nat × Nat)} {S S' : Nat → Prop} (ho : all[i]? = some o) (hS : ∀ j, S' j ↔ S j ∨ j = i) (h : ∀ t, LastT P A r all ob0 S ob t) (hat : ∀ t ∈ touchL A r i o, getM t ob = getM t (obN P A r all ob0 i)) (hlt : ∀ (k : Nat) (p : Oper) (t : Nat), S k → all[k]? = some p → t ∈ touchL A r k p → t ∈ touchL A r i o → k ≤ i) (t : Nat) :
    LastT P A r all ob0 S' (putM o.dst (maskQ P A r i ob o) (offQ A r i ob o.op)) t := by
  have hm : maskQ P A r i ob o = maskQ P A r i (obN P A r all ob0 i) o := maskQ_like fun t ht => hat t (by unfold touchL; exact List.mem_append_right _ ht)
  by_cases htt : t ∈ touchL A r i o
  · refine .inl ⟨i, o, (hS i).2 (.inr rfl), ho, htt, fun k p hk hp hpt => ?_, ?_⟩
    · rcases (hS k).1 hk with hk | rfl
      · exact hlt k p t hk hp hpt htt
      · exact Nat.le_refl _
    · rw [obN_succ ho, getM_put, getM_put, hm]
      by_cases hd : o.dst = some t
      · rw [if_pos hd, if_pos hd]
      · rw [if_neg hd, if_neg hd]
        have : t ∈ takesL A r i o.op := by
          unfold touchL at htt
          rcases List.mem_append.1 htt with h | h
          · simp at h; exact absurd h hd
          · exact h
        rw [offQ_in this, offQ_in this]
  · have htt' := htt
    unfold touchL at htt'
    simp only [List.mem_append, not_or] at htt'
    have e : getM t (putM o.dst (maskQ P A r i ob o) (offQ A r i ob o.op)) = getM t ob := by
      rw [getM_put, if_neg (fun e => htt'.1 (by rw [e]; simp)), offQ_else htt'.2]
    rcases h t with ⟨j, p, a1, a2, a3, a4, a5⟩ | ⟨a1, a2⟩
    · refine .inl ⟨j, p, (hS j).2 (.inl a1), a2, a3, fun k q hk hq hqt => ?_, by rw [e, a5]⟩
      rcases (hS k).1 hk with hk | rfl
      · exact a4 k q hk hq hqt
      · rw [ho] at hq; cases hq; exact absurd hqt htt
    · refine .inr ⟨fun j p hj hp => ?_, by rw [e, a2]⟩
      rcases (hS j).1 hj with hj | rfl
      · exact a1 j p hj hp
      · rw [ho] at hp; cases hp; exact htt

/-- Fewer rooms in hand. -/
theorem weakQ {w : World} {g : Gh} {fr : List (Nat × AV)} {tmps : Array Value} {mm : Nat} (hext : ∀ t, exSrc o.op = some t → getM t ob = 0) (hmm : ∀ p, (maskQ P A r i ob o).testBit p = true → mm.testBit p = true) (hf : FR w g fr (putM o.dst mm (offOf A r i ob o.op)) tmps) : FR w g fr (putM o.dst (maskQ P A r i ob o) (offQ A r i ob o.op)) tmps := by
  refine hf.mono (.refl w g) fun t p _ hb => ⟨?_, fun _ hb => ⟨hb, rfl, fun _ h => h⟩⟩
  rw [getM_put] at hb ⊢
  split
  · rename_i hd
    rw [if_pos hd] at hb
    exact hmm p hb
  · rename_i hd
    rw [if_neg hd] at hb
    unfold offQ at hb
    split at hb
    · rename_i x j ho
      cases x with
      | tmp u =>
        have hz := hext u (by rw [ho]; rfl)
        rw [ho]
        simp only [offOf, strict_eq, getM]
        by_cases hu : u = t
        · subst hu; rw [hz] at hb; simp at hb
        · rw [beq_no hu]; exact hb
      | _ => rw [ho]; exact hb
    · exact hb
end

/-! ### variables that are laid ahead -/
def Gh.lay (g : Gh) (id : Nat) : Gh := ⟨g.own, g.st, fun j => g.rsv j ∧ j ≠ id⟩
def Gh.ahead (g : Gh) (n k : Nat) : Gh := ⟨g.own, g.st, fun j => g.rsv j ∨ n ≤ j ∧ j < n + k⟩
section
variable {P : Program} {w : World} {g : Gh} {h : H} {fr : List (Nat × AV)} {ob : List (Nat × Nat)} {a : Act}

theorem same_mono {g' : Gh} (h1 : g'.own = g.own) (h2 : g'.st = g.st) : Mono w g w g' := ⟨fun _ _ h => ⟨by rw [h2]; exact h, rfl⟩, fun _ _ h => by rw [h1]; exact h⟩
theorem same_keeps {g' : Gh} (h1 : g'.own = g.own) (h2 : g'.st = g.st) (l : Loc) : Keeps w g w g' l l := fun _ h => ⟨by rw [h1]; exact h, rfl, fun _ h => by rw [h2] at h; exact h⟩
theorem same_fr {g' : Gh} (h1 : g'.own = g.own) (h2 : g'.st = g.st) {tmps : Array Value} (hF : FR w g fr ob tmps) : FR w g' fr ob tmps := hF.mono (same_mono h1 h2) fun t p c hb => ⟨hb, same_keeps h1 h2 _⟩
theorem lay_hr {id : Nat} (hH : HR w g h) : HR w (g.lay id) h :=
  ⟨fun i o hi ht => (hH.obj i o hi ht).mono (same_mono (g := g) (g' := g.lay id) rfl rfl) (fun _ _ => ⟨rfl, fun _ h => h⟩) (fun _ => same_keeps (g := g) (g' := g.lay id) rfl rfl _), hH.inj, hH.lt, hH.bd, hH.stlt, fun b i h1 h2 => hH.rsv b i h1 h2.1, fun i h1 => hH.rlt i h1.1⟩
theorem lay_ev {id : Nat} {w0 : World} {g0 : Gh} (ev : Ev w0 g0 w g) (hid : ¬ g0.rsv id) : Ev w0 g0 w (g.lay id) := ⟨ev.size, ev.st, ev.obj, ev.old, ev.os, ev.out, fun j hj => ⟨ev.rsv j hj, fun e => hid (e ▸ hj)⟩⟩
theorem ahead_hr (hH : HR w g h) (l : List AObj) : HR w (g.ahead h.length l.length) (h ++ l) := by
  refine ⟨fun i o hi ht => ?_, hH.inj, hH.lt, fun b id h1 => by have := hH.bd b id h1; simp; omega, hH.stlt, fun b i h1 h2 => ?_, fun i h1 => ?_⟩
  · obtain ⟨b, hb⟩ := ht
    have := hH.bd b i hb
    rw [List.getElem?_append_left this] at hi
    exact (hH.obj i o hi ⟨b, hb⟩).mono (same_mono (g := g) (g' := g.ahead h.length l.length) rfl rfl) (fun _ _ => ⟨rfl, fun _ h => h⟩) (fun _ => same_keeps (g := g) (g' := g.ahead h.length l.length) rfl rfl _)
  · rcases h2 with h2 | h2
    · exact hH.rsv b i h1 h2
    · have := hH.bd b i h1; omega
  · rcases h1 with h1 | h1
    · have := hH.rlt i h1; simp; omega
    · simp; omega
theorem ahead_ev (n k : Nat) : Ev w g w (g.ahead n k) := ⟨Nat.le_refl _, fun _ _ h => ⟨h, rfl⟩, fun _ _ h => h, fun _ _ h => ⟨h, rfl, fun _ h => h⟩, rfl, rfl, fun _ h => .inl h⟩

theorem slotPos_ge {r i : Nat} : ∀ {l : List (Nat × Nat)} {n m : Nat}, slotPos r i l n = some m → n ≤ m
  | [], n, m, h => by cases h
  | p :: l, n, m, h => by
    unfold slotPos at h
    cases h1 : Nat.beq p.1 r with
    | false => rw [h1] at h; exact slotPos_ge (l := l) h
    | true =>
      rw [h1] at h
      cases h2 : Nat.beq p.2 i with
      | true => rw [h2] at h; simp at h; omega
      | false => rw [h2] at h; have := slotPos_ge (l := l) h; omega
theorem slotPos_inj {r i i' : Nat} : ∀ {l : List (Nat × Nat)} {n m : Nat}, slotPos r i l n = some m → slotPos r i' l n = some m → i = i'
  | [], n, m, h, _ => by cases h
  | p :: l, n, m, h, h' => by
    unfold slotPos at h h'
    cases h1 : Nat.beq p.1 r with
    | false => rw [h1] at h h'; exact slotPos_inj (l := l) h h'
    | true =>
      rw [h1] at h h'
      simp only [cond_true] at h h'
      cases h2 : Nat.beq p.2 i with
      | true =>
        rw [h2] at h
        simp at h
        subst h
        cases h3 : Nat.beq p.2 i' with
        | true => rw [← Nat.eq_of_beq_eq_true h2, ← Nat.eq_of_beq_eq_true h3]
        | false => rw [h3] at h'; have := slotPos_ge (l := l) h'; omega
      | false =>
        rw [h2] at h
        simp only [cond_false] at h
        cases h3 : Nat.beq p.2 i' with
        | true => rw [h3] at h'; simp at h'; subst h'; have := slotPos_ge (l := l) h; omega
        | false => rw [h3] at h'; exact slotPos_inj (l := l) h h'
theorem slotPos_lt {r i : Nat} : ∀ {l : List (Nat × Nat)} {n m : Nat}, slotPos r i l n = some m → m < n + (l.filter fun p => Nat.beq p.1 r).length
  | [], n, m, h => by cases h
  | p :: l, n, m, h => by
    unfold slotPos at h
    cases h1 : Nat.beq p.1 r with
    | false => rw [h1] at h; rw [List.filter_cons_of_neg (p := fun p : Nat × Nat => Nat.beq p.1 r) (by rw [h1]; simp)]; exact slotPos_lt (l := l) h
    | true =>
      rw [h1] at h
      rw [List.filter_cons_of_pos (p := fun p : Nat × Nat => Nat.beq p.1 r) h1]
      simp only [List.length_cons]
      cases h2 : Nat.beq p.2 i with
      | true => rw [h2] at h; simp at h; omega
      | false => rw [h2] at h; have := slotPos_lt (l := l) h; omega

theorem New.hr_slot {o : Obj} {S : Nat → Prop} {w' : World} {g' : Gh} {i : Nat} (n : New w g o (some (.obj i)) S w' g') (hH : HR w g h) (hu : ∀ b, g.own b ≠ some (.obj i)) (hr : ¬ g.rsv i) {ob : AObj} (hi : h[i]? = some ob) (hob : ObjRep w' g' i ob) : HR w' g' h where
  obj id o' hid ht := by
    by_cases he : id = i
    · subst he; rw [hi] at hid; cases hid; exact hob
    · exact n.objs hH (hH.obj id o' hid (by
        obtain ⟨b, hb⟩ := ht
        rw [n.own] at hb
        simp only at hb
        split at hb
        · cases hb; exact absurd rfl he
        · exact ⟨b, hb⟩))
  inj b b' id h1 h2 := by
    rw [n.own] at h1 h2
    simp only at h1 h2
    split at h1
    · split at h2
      · omega
      · cases h1; exact absurd h2 (hu _)
    · split at h2
      · cases h2; exact absurd h1 (hu _)
      · exact hH.inj b b' id h1 h2
  lt b l h1 := by
    rw [n.own] at h1
    rw [n.heap, Array.size_push]
    simp only at h1
    split at h1
    · omega
    · have := hH.lt b l h1; omega
  bd b id h1 := by
    rw [n.own] at h1
    simp only at h1
    split at h1
    · cases h1; exact (List.getElem?_eq_some_iff.1 hi).1
    · exact hH.bd b id h1
  stlt b k h0 := by
    have h1 : if b = w.heap.size then S k else g.st b k := by rw [n.st] at h0; exact h0
    rw [n.heap, Array.size_push]
    split at h1
    · omega
    · have := hH.stlt b k h1; omega
  rsv b id h1 := by
    rw [n.own] at h1
    rw [n.rsv]
    simp only at h1
    split at h1
    · cases h1; exact hr
    · exact hH.rsv b id h1
  rlt id h1 := by rw [n.rsv] at h1; exact hH.rlt id h1

/-- A variable that was laid ahead. -/
theorem alloc_slot (hH : HR w g h) (hF : FR w g fr ob a.tmps) {o : Oper} {t : TypeId} (ho : o.op = .alloc t) {z : AV} (hz : zero P t = some z) (hone : z.cells.all AV.one = true) {id : Nat} {v : AV} (he : slotOp id z.cells h = some v) (hr : g.rsv id) : OpOk P a o fr ob 0 v h w (g.lay id) := by
  unfold slotOp at he
  split at he
  · rename_i cs' hid
    cases hc : eqbL cs' z.cells with
    | false => rw [hc] at he; cases he
    | true =>
      rw [hc] at he
      simp only [cond_true, Option.some.injEq] at he
      subst he
      have := eqbL_eq hc
      subst this
      obtain ⟨zv, hzr, _, hz0, _⟩ := zero_sound (P := P) (w := w) (g := g.lay id) (wh := fun _ c => some (.cell id c)) hz
      have n := new_mk w (g.lay id) (.cells zv.cells t) (some (.obj id)) (fun _ => False)
      obtain ⟨c1, c2⟩ := hz0.cells hone
      have hH2 := lay_hr (id := id) hH
      have hF2 : FR w (g.lay id) fr ob a.tmps := same_fr (g := g) (g' := g.lay id) rfl rfl hF
      refine ⟨_, _, _, _, by simp [execOp, ho, Instr.alloc, hzr, newVar, newRow]; rfl, .inl rfl, n.ev hH2, n.hr_slot hH2 (fun b hb => hH.rsv b id hb hr) (fun hx => hx.2 rfl) hid ?_, n.fr hH2 hF2, ptr_ok (by rw [n.own]; simp)⟩
      refine arr_rep (b := w.heap.size) (by rw [n.own]; simp) n.at_new c1 (fun j c v hj hv => ⟨(c2 j c v hj hv).1, n.rep hH2 (c2 j c v hj hv).2⟩) (fun k hk => by rw [n.st] at hk; simp at hk)
  · cases he
end

section
variable {P : Program} {ob0 : List (Nat × Nat)}

/-- The region's operations in any order that is told. -/
theorem regionQ_sound {D : List Deferred} {call : Cl} (hcall : CallOk P call) {A : FAnn} {r : Nat} {ops : Array Oper} (ck : Chk P A r ops.toList ob0) {fr2 : List (Nat × AV)} {h2 : H} {w0 : World} {g0 : Gh} (hg0 : ∀ id, g0.rsv id → id < A.base) {Q : Exit → Act → World → Prop}
    (hfin : ∀ a w g, FR w g fr2 (obN P A r ops.toList ob0 ops.toList.length) a.tmps → HR w g h2 → A.nt ≤ a.tmps.size → a.defers = D → Ev w0 g0 w g → Q .normal a w) : ∀ (l : List Nat) (S : Nat → Prop) (fr : List (Nat × AV)) (ob : List (Nat × Nat)) (h : H) (a : Act) (w : World) (g : Gh),
    Valid ops.toList l S → (∀ j o, S j → ops.toList[j]? = some o → ∀ i ∈ directs o, S i) → (∀ t, LastT P A r ops.toList ob0 S ob t) → (∀ (j : Nat) p t m, ¬ S j → ops.toList[j]? = some p → p.op = .alloc t → slotPos r j A.obj 0 = some m → g.rsv (A.base + m)) →
    regionQ P A call r ops.toList (obN P A r ops.toList ob0) (fun fr h => some (fr, h)) (orderedL ops.toList l) fr h = some (fr2, h2) → FR w g fr ob a.tmps → HR w g h → A.nt ≤ a.tmps.size → a.defers = D → Ev w0 g0 w g → wpOps P ops Q l a w
  | [], S, fr, ob, h, a, w, g, hv, hdir, hot, hres, he, hF, hH, hn, hd, ev => by
    cases he
    refine hfin a w g (hF.mono (.refl w g) fun t p _ hb => ⟨?_, fun _ hb => ⟨hb, rfl, fun _ h => h⟩⟩) hH hn hd ev
    rw [(hot t).at (n := ops.toList.length) fun j o ho _ => ⟨fun _ => (List.getElem?_eq_some_iff.1 ho).1, fun hlt => hv j hlt⟩]
    exact hb
  | i :: l, S, fr, ob, h, a, w, g, hv, hdir, hot, hres, he, hF, hH, hn, hd, ev => by
    obtain ⟨hi, ⟨o, hoL, hdo⟩, hv⟩ := hv
    unfold wpOps
    have hio : ops[i]? = some o := by rw [← Array.getElem?_toList]; exact hoL
    simp only [orderedL, List.filterMap_cons, hoL, Option.map_some, regionQ] at he
    rw [stepQ_eq, Option.bind_eq_some_iff] at he
    obtain ⟨⟨v, h'⟩, hs, he⟩ := he
    simp only at he
    have he : regionQ P A call r ops.toList (obN P A r ops.toList ob0) (fun fr h => some (fr, h)) (orderedL ops.toList l) (putV A.nt o.dst v fr) h' = some (fr2, h2) := he
    have hmem : o ∈ ops.toList := List.mem_of_getElem? hoL
    have closed : ∀ k, S k → ∀ j, bef ops.toList k j = true → S j := bef_closed hdir
    have dir' : ∀ j p, (S j ∨ j = i) → ops.toList[j]? = some p → ∀ k ∈ directs p, S k ∨ k = i := by
      intro j p hj hp k hk
      rcases hj with hj | rfl
      · exact .inl (hdir j p hj hp k hk)
      · rw [hoL] at hp; cases hp; exact .inl (hdo k hk)
    have closed' : ∀ j, bef ops.toList i j = true → j ≠ i → S j := by
      intro j hj hji
      rcases bef_closed dir' i (.inr rfl) j hj with h | h
      · exact h
      · exact absurd h hji
    have hat : ∀ t ∈ touchL A r i o, getM t ob = getM t (obN P A r ops.toList ob0 i) := by
      intro t ht
      refine (hot t).at fun j p hp hpt => ⟨fun hS => ?_, fun hlt => closed' j (ck.touch j i p o hp hoL hlt t hpt ht) (by omega)⟩
      rcases Nat.lt_trichotomy j i with h | h | h
      · exact h
      · subst h; exact absurd hS hi
      · exact absurd (closed j hS i (ck.touch i j o p hoL hp h t ht hpt)) hi
    have hstep := LastT.step hoL (fun j => Iff.rfl) hot hat fun k p t hk hp hpt hot' => by
      rcases Nat.lt_or_ge i k with hlt | hge
      · exact absurd (closed k hk i (ck.touch i k o p hoL hp hlt t hot' hpt)) hi
      · exact hge
    have hext : ∀ t, exSrc o.op = some t → getM t ob = 0 := fun t ht => (hot t).zero (ck.ext i o t hoL ht)
    rw [← stp_ob (ob := ob) fun t ht => hat t (by unfold touchL; exact List.mem_append_right _ ht)] at hs
    simp only [hio]
    have go : ∀ (a' : Act) (w' : World) (g' : Gh), FR w' g' (putV A.nt o.dst v fr) (putM o.dst (maskQ P A r i ob o) (offQ A r i ob o.op)) a'.tmps → HR w' g' h' → A.nt ≤ a'.tmps.size → a'.defers = D → Ev w0 g0 w' g' → (∀ (j : Nat) p t m, ¬ (S j ∨ j = i) → ops.toList[j]? = some p → p.op = .alloc t → slotPos r j A.obj 0 = some m → g'.rsv (A.base + m)) → wpOps P ops Q l a' w' :=
      fun a' w' g' f1 f2 f3 f4 f5 f6 => regionQ_sound hcall ck hg0 hfin l _ _ _ _ a' w' g' hv dir' hstep f6 he f1 f2 f3 f4 f5
    have resE : ∀ {w' : World} {g' : Gh}, Ev w g w' g' → ∀ (j : Nat) p t m, ¬ (S j ∨ j = i) → ops.toList[j]? = some p → p.op = .alloc t → slotPos r j A.obj 0 = some m → g'.rsv (A.base + m) :=
      fun f j p t m hj hp ht hm => f.rsv _ (hres j p t m (fun h => hj (.inl h)) hp ht hm)
    have skip : h' = h → v = .tuple [] → wpOps P ops Q l (a.put o.dst undef) w := by
      rintro rfl rfl
      exact go _ w g (weakQ hext (fun _ h => h) ((hF.skip A r i o.op).put hn undef_rep)) hH (by rw [put_size]; exact hn) (by rw [put_defers]; exact hd) ev (resE (.refl w g))
    have done : ∀ {m : Nat}, OpOk P a o fr (offOf A r i ob o.op) m v h' w g → (∀ p, (maskQ P A r i ob o).testBit p = true → m.testBit p = true) → o.wp P a w (wpOps P ops Q l) Q := by
      intro m hk hmm
      exact wp_opOk hk hn fun a' w' g' f1 f2 f3 f4 f5 => go a' w' g' (weakQ hext hmm f1) f2 f4 (by rw [f5]; exact hd) (ev.trans f3) (resE f3)
    have hmask : (∀ f args, kindOf A r i o.op ≠ .call f args) → ∀ p, (maskQ P A r i ob o).testBit p = true → (maskOf A r i ob o.op).testBit p = true := by
      intro hnc p hb
      unfold maskQ at hb
      split at hb
      · simp at hb
      · rename_i ho
        exact absurd (show kindOf A r i o.op = .call _ _ by rw [ho]; rfl) (hnc _ _)
      · exact hb
    have split2 : ∀ {want : Bool}, Region.wanted o (yielded ops a.tmps) = want → (want = true → o.wp P a w (wpOps P ops Q l) Q) → (want = false → wpOps P ops Q l (a.put o.dst undef) w) →
        (if Region.wanted o (yielded ops a.tmps) = true then o.wp P a w (wpOps P ops Q l) Q ∨ (o.asks P a w ∧ LetsOut Q) else wpOps P ops Q l (a.put o.dst undef) w) := by
      intro want hw h1 h2
      rw [hw]
      cases want with
      | true => rw [if_pos rfl]; exact .inl (h1 rfl)
      | false => rw [if_neg (by simp)]; exact h2 rfl
    unfold stp stepQ at hs
    split at hs
    · rename_i hk
      have hmq := hmask (fun f args e => by rw [hk] at e; cases e)
      split at hs
      · rename_i v' hg hv
        cases hs
        exact split2 (want := true) (by simp [Region.wanted, hg]) (fun _ => done (op_tot hH hF hv) hmq) (by simp)
      · simp only [Option.bind_eq_some_iff] at hs
        obtain ⟨v', hv, hs⟩ := hs
        cases hs
        rcases gated_cases hv hF with ⟨hw, hx⟩ | ⟨hw, rfl⟩
        · exact split2 hw (fun _ => done (op_tot hH hF hx) hmq) (by simp)
        · exact split2 hw (by simp) (fun _ => skip rfl rfl)
      · cases hs
    · rename_i hk
      have hmq := hmask (fun f args e => by rw [hk] at e; cases e)
      split at hs
      · rename_i p hg hp
        cases hs
        exact split2 (want := true) (by simp [Region.wanted, hg]) (fun _ => done (op_new hH hF hp) hmq) (by simp)
      · simp only [Option.bind_eq_some_iff] at hs
        obtain ⟨p, hp, hs⟩ := hs
        cases hs
        rcases gated_cases hp hF with ⟨hw, hx⟩ | ⟨hw, hy⟩
        · exact split2 hw (fun _ => done (op_new hH hF hx) hmq) (by simp)
        · exact split2 hw (by simp) (fun _ => skip (by rw [hy]) (by rw [hy]))
      · cases hs
    · rename_i hk
      have hmq := hmask (fun f args e => by rw [hk] at e; cases e)
      simp only [Option.bind_eq_some_iff] at hs
      obtain ⟨v', hv, hs⟩ := hs
      cases hs
      rcases gated_cases hv hF with ⟨hw, hx⟩ | ⟨hw, rfl⟩
      · by_cases hal : ∃ t, o.op = .alloc t
        · obtain ⟨t, hal⟩ := hal
          refine split2 hw (fun _ => ?_) (by simp)
          rw [hal] at hx
          simp only [valOp] at hx
          cases hdr : A.drawn with
          | false => rw [hdr] at hx; cases hx
          | true =>
            rw [hdr] at hx
            simp only [cond_true] at hx
            split at hx
            · rename_i n z hn2 hz
              cases hone : z.cells.all AV.one with
              | false => rw [hone] at hx; cases hx
              | true =>
                rw [hone] at hx
                simp only [cond_true] at hx
                have hrs := hres i o t n hi hoL hal hn2
                have hk2 := alloc_slot (P := P) (a := a) (ob := ob) hH hF hal hz hone hx hrs
                refine wp_opOk hk2 hn fun a' w' g' f1 f2 f3 f4 f5 => go a' w' g' (weakQ hext (mm := 0) (fun p hb => by unfold maskQ at hb; rw [hal] at hb; exact hb) (by rw [hal]; exact f1)) f2 f4 (by rw [f5]; exact hd) ((lay_ev ev fun h0 => by have := hg0 _ h0; omega).trans f3) fun j p t' m hj hp ht hm => f3.rsv _ ⟨hres j p t' m (fun h => hj (.inl h)) hp ht hm, fun e => ?_⟩
                have : m = n := by omega
                subst this
                exact hj (.inr (slotPos_inj hm hn2))
            · cases hx
        · exact split2 hw (fun _ => done (op_val hH hF (.inr fun t ht => hal ⟨t, ht⟩) hk hx) hmq) (by simp)
      · exact split2 hw (by simp) (fun _ => skip rfl rfl)
    · rename_i hk
      have hmq := hmask (fun f args e => by rw [hk] at e; cases e)
      simp only [Option.bind_eq_some_iff] at hs
      obtain ⟨p, hp, hs⟩ := hs
      cases hs
      rcases gated_cases hp hF with ⟨hw, hx⟩ | ⟨hw, hy⟩
      · exact split2 hw (fun _ => done (op_heap hH hF hk hx) hmq) (by simp)
      · exact split2 hw (by simp) (fun _ => skip (by rw [hy]) (by rw [hy]))
    · rename_i f args hk
      simp only [Option.bind_eq_some_iff] at hs
      obtain ⟨p, hp, hs⟩ := hs
      obtain ⟨c, ho, hc, hca⟩ := call_of hk
      obtain ⟨e, ph⟩ := p
      cases e with
      | pan x => cases hs
      | ret x =>
        cases hs
        rcases gated_cases hp hF with ⟨hw, hx⟩ | ⟨hw, hy⟩
        · refine split2 hw (fun _ => ?_) (by simp)
          rw [← hca] at hx
          refine wp_call hcall hH hF ho hc hx hn (fun a' w' g' v' e1 f1 f2 f3 f4 f5 => ?_) (fun w' g' v' u e1 => by cases e1)
          cases e1
          refine go a' w' g' (weakQ hext (mm := full) (fun p hb => ?_) (by rw [off_call hk]; exact f1)) f2 f4 (by rw [f5]; exact hd) (ev.trans f3) (resE f3)
          unfold maskQ at hb
          split at hb
          · simp at hb
          · cases hsl : isSlice P o.type with
            | true => rw [hsl] at hb; exact hb
            | false => rw [hsl] at hb; simp at hb
          · rename_i hne
            exact absurd (show o.op = .call { callee := .value f, args := c.args, argTypes := c.argTypes } by rw [ho]; obtain ⟨x1, x2, x3⟩ := c; simp only at hc; subst hc; rfl) (hne _ _ _)
        · refine split2 hw (by simp) (fun _ => ?_)
          cases hy
          exact skip rfl rfl
    · cases hs
    · cases hs
end
end Go.Ve

/- VE: code. -/
namespace Go.Ve
open Go

theorem getV_keep (fr : List (Nat × AV)) (t : Nat) : ∀ l : List (Nat × Nat), getV t (keepFr fr l) = getV t fr ∨ getV t (keepFr fr l) = .undef
  | [] => .inr rfl
  | p :: l => by
    simp only [keepFr, getV]
    cases hb : Nat.beq p.1 t with
    | true =>
      have := Nat.eq_of_beq_eq_true hb
      subst this
      exact .inl rfl
    | false => exact getV_keep fr t l
theorem getM_keep (ob : List (Nat × Nat)) (t p : Nat) : ∀ l : List (Nat × Nat), (getM t (keepOb ob l)).testBit p = true → (getM t ob).testBit p = true
  | [], h => by simp [keepOb, getM] at h
  | q :: l, h => by
    simp only [keepOb, strict_eq, getM] at h
    cases hb : Nat.beq q.1 t with
    | true =>
      rw [hb] at h
      have := Nat.eq_of_beq_eq_true hb
      subst this
      simp only [cond_true] at h
      have h' : (getM q.1 ob &&& q.2).testBit p = true := h
      rw [Nat.testBit_and] at h'
      simp at h'
      exact h'.1
    | false =>
      rw [hb] at h
      exact getM_keep ob t p l h

section
variable {P : Program} {w : World} {g : Gh} {h : H}

theorem FR.keep {fr : List (Nat × AV)} {ob : List (Nat × Nat)} {tmps : Array Value} (hF : FR w g fr ob tmps) (l l' : List (Nat × Nat)) : FR w g (keepFr fr l) (keepOb ob l') tmps := by
  intro t
  have h1 := hF.mono (ob' := keepOb ob l') (.refl w g) (fun t p c hb => ⟨getM_keep ob t p l' hb, fun _ hb => ⟨hb, rfl, fun _ h => h⟩⟩) t
  rcases getV_keep fr t l with e | e
  · rw [e]; exact h1
  · rw [e]; exact .undef

theorem M.enter {nt : Nat} {s : St} {a : Act} (m : M nt s a w g) (an : Ann) : M nt (an.enter s) a w g := by
  unfold Ann.enter
  split
  · exact ⟨m.fr.keep _ _, m.hr, m.size, m.df⟩
  · exact m

theorem drew_ev (w : World) (g : Gh) (n : Nat) : Ev w g { w with drawn := n } g := ⟨Nat.le_refl _, fun _ _ h => ⟨h, rfl⟩, fun _ _ h => h, fun _ _ h => ⟨h, rfl, fun _ h => h⟩, rfl, rfl, fun _ h => h⟩
theorem HR.drew (hH : HR w g h) (n : Nat) : HR { w with drawn := n } g h :=
  ⟨fun id o hid ht => (hH.obj id o hid ht).mono (drew_ev w g n).mono (fun _ _ => ⟨rfl, fun _ h => h⟩) (fun _ _ hb => ⟨hb, rfl, fun _ h => h⟩), hH.inj, hH.lt, hH.bd, hH.stlt, hH.rsv, hH.rlt⟩

def ordered (ops : Array Oper) (l : List Nat) : List (Nat × Oper) := l.filterMap fun i => (ops[i]?).map fun o => (i, o)

theorem enum_range (ops : Array Oper) : ordered ops (List.range ops.size) = enum 0 ops.toList := by
  have key : ∀ (l : List Oper) (n : Nat) (all : Array Oper), (∀ j, j < l.length → all[n + j]? = l[j]?) → ((List.range' n l.length).filterMap fun i => (all[i]?).map fun o => (i, o)) = enum n l := by
    intro l
    induction l with
    | nil => intros; rfl
    | cons o l ih =>
      intro n all h
      have h0 := h 0 (by simp)
      simp only [Nat.add_zero, List.getElem?_cons_zero] at h0
      rw [List.length_cons, List.range'_succ, List.filterMap_cons, h0]
      simp only [Option.map_some, enum]
      rw [ih (n + 1) all (fun j hj => by
        have := h (j + 1) (by simp; omega)
        rw [show n + 1 + j = n + (j + 1) by omega, this]; simp)]
  have := key ops.toList 0 ops (fun j _ => by simp)
  rw [Array.length_toList] at this
  unfold ordered
  rw [List.range_eq_range']
  exact this

/-- A loop, as many rounds as it takes. -/
theorem wp_rounds {c : Code} {Q : Exit → Act → World → Prop} (I : Nat → Act → World → Prop) (hI : ∀ a w, ¬ I 0 a w) (round : ∀ n a w, I (n + 1) a w → c.wp P (Exit.then (I n) Q) a w) {n : Nat} {a : Act} {w : World} (h0 : I n a w) : (Code.loop c).wp P Q a w := by
  intro b k cs
  have key : ∀ n a w, I n a w → ∃ e a' w', Q e a' w' ∧ Arrives P (lone (b.at a (.code c :: .inLoop c :: k)) cs w) b k cs e a' w' := by
    intro n
    induction n with
    | zero => intro a w h; exact absurd h (hI a w)
    | succ n ih =>
      intro a w h
      obtain ⟨e, a₁, w₁, hq, harr⟩ := round n a w h b (.inLoop c :: k) cs
      cases e with
      | normal =>
        obtain ⟨e₂, a₂, w₂, hq₂, harr₂⟩ := ih a₁ w₁ hq
        exact ⟨e₂, a₂, w₂, hq₂, .of_steps (Steps.trans harr (.one step_inLoop)) harr₂⟩
      | exit id => exact ⟨_, a₁, w₁, hq, .pass (x := .inLoop c) rfl (fun _ _ => .inl (by simp)) harr⟩
      | goto l => exact ⟨_, a₁, w₁, hq, .pass (x := .inLoop c) rfl (fun _ _ => .inl (by simp)) harr⟩
      | ret => exact ⟨_, a₁, w₁, hq, .pass (x := .inLoop c) rfl (fun _ _ => .inl (by simp)) harr⟩
      | panic ch => exact ⟨_, a₁, w₁, hq, .pass (x := .inLoop c) rfl (fun _ _ => .inl (by simp)) harr⟩
      | outgrown => exact ⟨_, a₁, w₁, hq, .pass (x := .inLoop c) rfl (fun _ _ => .inl (by simp)) harr⟩
  obtain ⟨e, a', w', hq, harr⟩ := key n a w h0
  exact ⟨e, a', w', hq, .of_steps (.one step_loop) harr⟩

theorem exec_sound {R : Type} {call : Cl} (hcall : CallOk P call) {A : FAnn} (hdr : A.drawn = false) (hmix : P.follows .mixedOrders = true) (hq : ∀ f ∈ A.q, Still call f) {n : Nat} {res : R} : ∀ (c : Code) (an : Ann) (k : K R) (s : St) (a : Act) (w : World) (g : Gh) (w0 : World) (g0 : Gh),
    exec P A call n c an k s = some res → M A.nt s a w g → Ev w0 g0 w g → c.wp P (Post k res A.nt w0 g0) a w := by
  intro c
  induction c with
  | skip => intro an k s a w g w0 g0 he m ev; exact wp_skip ⟨s, g, m, ev, he⟩
  | label l => intro an k s a w g w0 g0 he m ev; exact wp_label ⟨s, g, m, ev, he⟩
  | exit id => intro an k s a w g w0 g0 he m ev; exact wp_exit ⟨s, g, m, ev, he⟩
  | ret => intro an k s a w g w0 g0 he m ev; exact wp_ret ⟨s, g, m, ev, he⟩
  | goto l => intro an k s a w g w0 g0 he m ev; simp [exec, execG] at he
  | refuse l => intro an k s a w g w0 g0 he m ev; simp [exec, execG] at he
  | rangeFunc f ps x y => intro an k s a w g w0 g0 he m ev; simp [exec, execG] at he
  | region r ops draw =>
    intro an k s a w g w0 g0 he m ev
    obtain ⟨fr, ob, ds, h⟩ := s
    obtain ⟨m1, m2, m3, m4⟩ := m
    simp only at m1 m2 m4
    cases draw with
    | false =>
      simp only [exec, execG, rgOf, rqOf] at he
      have he := regionC_plain _ _ _ _ _ he
      refine wp_region (region_sound (r := r) hcall hdr (List.range ops.size) fr ob ds h a w g w0 g0 ?_ m1 m2 m3 m4 ev)
      have := enum_range ops
      unfold ordered at this
      rw [this]
      exact he
    | true =>
      simp only [exec, execG, rgOf, rqOf] at he
      cases hck : drawChk P (A.quiet h.length) r ops.toList ob with
      | false => rw [hck] at he; simp at he
      | true =>
        rw [hck] at he
        simp only [cond_true] at he
        have hah : aheadH h (slotsOf P A r ops.toList) = h ++ slotsOf P A r ops.toList := by cases slotsOf P A r ops.toList <;> simp [aheadH]
        rw [hah] at he
        refine wp_region_draw fun t => ?_
        have e2 := (drew_ev w g (w.drawn + 1)).trans (ahead_ev h.length (slotsOf P A r ops.toList).length)
        have hck' := chk_of hck
        have hvalid := schedule_valid hmix hck'.edges t
        obtain ⟨fr1, fr2, h1, hk, hrun2, hsame⟩ := order_free hck' hq he hvalid
        refine regionQ_sound hcall (A := A.quiet h.length) (D := a.defers) hck' (w0 := w) (g0 := g) m2.rlt (fun a' w' g' f1 f2 f3 f4 f5 => ?_) _ _ fr ob _ a _ (g.ahead h.length (slotsOf P A r ops.toList).length) hvalid (fun _ _ h => h.elim) (fun _ => .inr ⟨fun _ _ h => h.elim, rfl⟩) (fun j p t m _ _ _ hm => ?_) hrun2 ?_ (ahead_hr (m2.drew _) _) m3 rfl e2
        · refine ⟨⟨fr1, obN P (A.quiet h.length) r ops.toList ob ops.toList.length, ds, h1⟩, g', ⟨fun x => ?_, f2, f3, by rw [f4]; exact m4.mono f5.mono⟩, ev.trans f5, hk⟩
          have := f1 x
          rw [hsame x] at this
          exact this
        · have := slotPos_lt hm
          simp only [Nat.zero_add] at this
          refine Or.inr ?_
          show h.length ≤ h.length + m ∧ h.length + m < h.length + (slotsOf P A r ops.toList).length
          have e : (slotsOf P A r ops.toList).length = (A.obj.filter fun p => Nat.beq p.1 r).length := by simp [slotsOf]
          rw [e]
          exact ⟨Nat.le_add_right _ _, Nat.add_lt_add_left this _⟩
        · exact m1.mono e2.mono fun t p _ hb => ⟨hb, fun _ hb => ⟨hb, rfl, fun _ h => h⟩⟩
  | seq x y ihx ihy =>
    intro an k s a w g w0 g0 he m ev
    simp only [exec, execG, rgOf, rqOf] at he
    refine wp_seq (wp_mono (ihx _ _ _ a w g w0 g0 he (m.enter _) ev) ?_)
    intro e a' w' hp
    cases e with
    | normal =>
      obtain ⟨s', g', m', ev', hk⟩ := hp
      exact ihy _ _ _ a' w' g' w0 g0 hk (m'.enter _) ev'
    | exit id => exact hp
    | ret => exact hp
    | panic ch => exact hp
    | goto l => exact hp
    | outgrown => exact hp
  | cond c x y ihx ihy =>
    intro an k s a w g w0 g0 he m ev
    simp only [exec, execG, rgOf, rqOf] at he
    unfold condA at he
    split at he
    · rename_i t ht
      have hr := m.fr.eval (a := a) c
      rw [ht] at hr
      generalize hu : a.eval c = u at hr
      cases hr
      refine wp_cond hu ?_
      cases t with
      | true => exact ihx _ _ _ a w g w0 g0 he (m.enter _) ev
      | false => exact ihy _ _ _ a w g w0 g0 he (m.enter _) ev
    · cases he
  | block id c ih =>
    intro an k s a w g w0 g0 he m ev
    simp only [exec, execG, rgOf, rqOf] at he
    refine wp_block (wp_mono (ih _ _ _ a w g w0 g0 he (m.enter _) ev) ?_)
    intro e a' w' hp
    cases e with
    | normal => exact hp
    | exit id' =>
      obtain ⟨s', g', m', ev', hk⟩ := hp
      simp only [Exit.inBlock]
      by_cases hid : id' = id
      · subst hid
        rw [if_pos rfl]
        simp only [beq_self_eq_true, cond_true] at hk
        exact ⟨s', g', m', ev', hk⟩
      · rw [if_neg hid]
        have : (id' == id) = false := by simpa using hid
        simp only [this, cond_false] at hk
        exact ⟨s', g', m', ev', hk⟩
    | ret => exact hp
    | panic ch => exact hp
    | goto l => exact hp
    | outgrown => exact hp
  | loop c ih =>
    intro an k s a w g w0 g0 he m ev
    simp only [exec, execG, rgOf, rqOf] at he
    refine wp_rounds (fun j a w => ∃ s g, M A.nt s a w g ∧ Ev w0 g0 w g ∧ loopN (fun again s' => exec P A call n c an.a { k with normal := fun s'' => again (an.a.enter s'') } s') j s = some res) ?_ ?_ (n := n) ⟨_, g, m.enter an.a, ev, he⟩
    · rintro a w ⟨s, g, _, _, h⟩
      simp [loopN] at h
    · rintro j a w ⟨s, g, m, ev, h⟩
      simp only [loopN] at h
      refine wp_mono (ih _ _ _ a w g w0 g0 h m ev) ?_
      intro e a' w' hp
      cases e with
      | normal =>
        obtain ⟨s', g', m', ev', hk⟩ := hp
        exact ⟨_, g', m'.enter _, ev', hk⟩
      | exit id => exact hp
      | ret => exact hp
      | panic ch => exact hp
      | goto l => exact hp
      | outgrown => exact hp
  | scope c ih =>
    intro an k s a w g w0 g0 he m ev
    simp only [exec, execG, rgOf, rqOf] at he
    refine wp_scope_straight (wp_mono (ih _ _ _ a w g w0 g0 he (m.enter _) ev) ?_)
    intro e a' w' hp
    cases e with
    | normal => exact hp
    | exit id => exact hp
    | ret => exact hp
    | panic ch => exact hp
    | goto l => exact hp
    | outgrown => exact hp

end
end Go.Ve

/- VE: what a function returns. -/
namespace Go.Ve
open Go

/-- A value that is one value: only its own place counts. -/
theorem Rep.part {w : World} {g : Gh} {wh wh' : Wh} {x : AV} {v : Value} (h : Rep w g wh x v) (hx : x.notTup = true) (he : ∀ c, wh' 0 c = wh 0 c) : Rep w g wh' x v := by
  cases h with
  | list b off s f hn hc ha hs h1 h2 hr => exact .list b off s f hn hc ha hs h1 h2 (by rw [he]; exact hr)
  | undef => exact .undef
  | bool => exact .bool
  | int => exact .int
  | str => exact .str
  | nilPtr => exact .nilPtr
  | ptr ho => exact .ptr ho
  | rptr f h1 h2 => exact .rptr f h1 h2
  | slc hl h => exact .slc hl h
  | nilMap => exact .nilMap
  | map ho => exact .map ho
  | nilFunc => exact .nilFunc
  | func h1 h2 i1 i2 => exact .func h1 h2 i1 i2
  | nilIface => exact .nilIface
  | iface h => exact .iface h
  | agg h1 h2 => exact .agg h1 fun j c v hj hv => (by have := h2 j c v hj hv; rw [← he] at this; exact this)
  | tuple => simp [AV.notTup] at hx

def posOf (t : Nat) : List ResultVar → Nat → Option Nat
  | [], _ => none
  | .tmp t' :: l, i => if t' = t then some i else posOf t l (i + 1)
  | _ :: l, i => posOf t l (i + 1)

/-- The results' rooms go out. -/
def goOut (rs : List ResultVar) : Loc → Loc
  | .tmp t p c => match posOf t rs 0 with
    | some i => if p = 0 then .res i c else .tmp t p c
    | none => .tmp t p c
  | l => l
theorem goOut_turn (rs : List ResultVar) : Turn (goOut rs) where
  obj _ := rfl
  cell _ _ := rfl
  back l id h := by
    cases l <;> simp [goOut] at h
    · split at h
      · split at h <;> cases h
      · cases h
    · exact congrArg _ h

theorem pos_mem {t : Nat} : ∀ (rs : List ResultVar) (i : Nat), t ∉ resTmps rs → posOf t rs i = none
  | [], _, _ => rfl
  | .tmp t' :: l, i, h => by
    simp only [resTmps, List.mem_cons, not_or] at h
    unfold posOf
    rw [if_neg (Ne.symm h.1)]
    exact pos_mem l (i + 1) h.2
  | .cell _ _ :: l, i, h => by
    unfold posOf
    exact pos_mem l (i + 1) h
theorem mem_resTmps {t : Nat} : ∀ {rs : List ResultVar} {j : Nat}, rs[j]? = some (.tmp t) → t ∈ resTmps rs
  | [], j, h => by simp at h
  | r :: l, 0, h => by simp at h; subst h; simp [resTmps]
  | r :: l, j + 1, h => by
    have := mem_resTmps (rs := l) (j := j) (by simpa using h)
    cases r <;> simp [resTmps, this]
theorem pos_at {t : Nat} : ∀ (rs : List ResultVar) (i j : Nat), nodupB (resTmps rs) = true → rs[j]? = some (.tmp t) → posOf t rs i = some (i + j)
  | [], i, j, _, h => by simp at h
  | .tmp t' :: l, i, 0, _, h => by
    simp at h
    subst h
    simp [posOf]
  | .tmp t' :: l, i, j + 1, hn, h => by
    simp only [resTmps, nodupB, Bool.and_eq_true, Bool.not_eq_true'] at hn
    have hl : l[j]? = some (.tmp t) := by simpa using h
    have hne : t' ≠ t := by
      rintro rfl
      have := mem_resTmps hl
      simp at hn
      exact hn.1 this
    unfold posOf
    rw [if_neg hne, pos_at l (i + 1) j hn.2 hl]
    congr 1; omega
  | .cell _ _ :: l, i, 0, hn, h => by simp at h
  | .cell _ _ :: l, i, j + 1, hn, h => by
    unfold posOf
    rw [pos_at l (i + 1) j hn (by simpa using h)]
    congr 1; omega

theorem seqO_get : ∀ {l : List (Option AV)} {vs : List AV}, seqO l = some vs → vs.length = l.length ∧ ∀ (j : Nat) v, vs[j]? = some v → l[j]? = some (some v)
  | [], vs, h => by simp [seqO] at h; subst h; simp
  | x :: l, vs, h => by
    simp only [seqO, Option.bind_eq_some_iff, Option.map_eq_some_iff] at h
    obtain ⟨v, rfl, vs', h1, rfl⟩ := h
    obtain ⟨h2, h3⟩ := seqO_get h1
    refine ⟨by simp [h2], fun j u hj => ?_⟩
    cases j with
    | zero => simp at hj; subst hj; simp
    | succ j => simpa using h3 j u (by simpa using hj)

section
variable {P : Program} {w : World} {g : Gh}

/-- One result. -/
def machineResult (P : Program) (w : World) (tmps : Array Value) : ResultVar → Value
  | .tmp t => tmps.getD t undef
  | .cell a t => match (do loadVar t (← asAddr (tmps.getD a undef)) : Sem Value).run P w with
    | .ok v _ => v
    | _ => undef

def resSem (tmps : Array Value) : ResultVar → Sem Value
  | .tmp t => pure (tmps.getD t undef)
  | .cell x t => do loadVar t (← asAddr (tmps.getD x undef))
theorem results_eq (fn : Func) (tmps : Array Value) : Go.results fn tmps = (do
    let vs ← fn.results.mapM (resSem tmps)
    pure (if h : vs.size = 1 then vs[0] else .tuple vs)) := rfl

theorem result_ok {nt : Nat} {s : St} {a : Act} (m : M nt s a w g) {rs : List ResultVar} (hnd : nodupB (resTmps rs) = true) {j : Nat} {r : ResultVar} (hj : rs[j]? = some r) {v : AV} (he : resultOf P s r = some v) (hv : v.notTup = true) :
    (resSem a.tmps r).run P w = .ok (machineResult P w a.tmps r) w ∧ Rep w (g.map (goOut rs)) (fun _ c => some (.res j c)) v (machineResult P w a.tmps r) := by
  have tn := goOut_turn rs
  cases r with
  | tmp t =>
    refine ⟨rfl, ?_⟩
    simp only [resultOf, Option.some.injEq] at he
    have hr := m.fr t
    unfold hold at he
    cases hb : (getM t s.ob).testBit 0 with
    | false =>
      rw [hb] at he
      simp only [cond_false] at he
      subst he
      exact (tn.rep hr (wh' := wh0) (fun p c l' hl => by cases hl)).copy
    | true =>
      rw [hb] at he
      simp only [cond_true] at he
      subst he
      have hp := pos_at rs 0 j hnd hj
      rw [Nat.zero_add] at hp
      have := tn.rep hr (wh' := fun p c => if p = 0 then some (.res j c) else none) (fun p c l' hl => by
        split at hl
        · rename_i hp0
          subst hp0
          cases hl
          exact ⟨.tmp t 0 c, by simp [whT, hb], by simp [goOut, hp]⟩
        · cases hl)
      exact this.part hv (fun c => by simp)
  | cell x t =>
    simp only [resultOf, Option.map_eq_some_iff] at he
    obtain ⟨v0, hld, rfl⟩ := he
    have hx := (m.fr x).weak
    obtain ⟨u, h1, h2⟩ := load_sound (P := P) m.hr hx hld
    have hptr : ∃ ad, a.tmps.getD x undef = .pointer (some ad) := by
      clear h1 h2
      generalize a.tmps.getD x undef = ux at hx
      generalize getV x s.fr = vx at hx hld
      unfold load at hld
      split at hld
      · simp only [ldAgg, Option.bind_eq_some_iff] at hld
        obtain ⟨p, hp, _⟩ := hld
        cases hx <;> simp [cellsAt] at hp
        · exact ⟨_, rfl⟩
        · exact ⟨_, rfl⟩
      · split at hld
        · simp only [ldCell, Option.bind_eq_some_iff] at hld
          obtain ⟨p, hp, _⟩ := hld
          cases hx <;> simp [cellsAt] at hp
          · exact ⟨_, rfl⟩
          · exact ⟨_, rfl⟩
        · cases hld
    obtain ⟨ad, had⟩ := hptr
    have hrun : (do loadVar t (← asAddr (a.tmps.getD x undef)) : Sem Value).run P w = .ok u w := by
      rw [had] at h1 ⊢
      simp only [Instr.loadAt, Instr.sureAddr] at h1
      simpa [asAddr] using h1
    refine ⟨?_, ?_⟩
    · simp only [machineResult, hrun, resSem]
    · simp only [machineResult, hrun]
      exact (tn.rep h2 (wh' := wh0) (fun p c l' hl => by cases hl)).copy

theorem results_ok {nt : Nat} {s : St} {a : Act} (m : M nt s a w g) {fn : Func} (hok : resOk fn = true) {v : AV} (he : results P fn s = some v) (hv : retOk fn (.ret v) = true) :
    ∃ u g', (Go.results fn a.tmps).run P w = .ok u w ∧ Ev w g w g' ∧ HR w g' s.h ∧ Rep w g' (fun p c => some (.res p c)) v u := by
  have tn := goOut_turn fn.results.toList
  simp only [resOk, Bool.and_eq_true] at hok
  have hok := hok.1
  have run : ∀ (hall : ∀ r ∈ fn.results.toList, ∃ (v : AV) (j : Nat), fn.results.toList[j]? = some r ∧ resultOf P s r = some v ∧ v.notTup = true),
      (Go.results fn a.tmps).run P w = .ok (if h : (fn.results.map (machineResult P w a.tmps)).size = 1 then (fn.results.map (machineResult P w a.tmps))[0] else .tuple (fn.results.map (machineResult P w a.tmps))) w := by
    intro hall
    have hm := run_mapM_array (P := P) (w := w) (resSem a.tmps) (machineResult P w a.tmps) fn.results (fun r hr => by
        obtain ⟨v, j, h1, h2, h3⟩ := hall r (by simpa using hr)
        exact (result_ok m hok h1 h2 h3).1)
    rw [results_eq, Sem.run_bind, hm]
    rfl
  unfold results at he
  cases hrs : fn.results.toList with
  | nil =>
    rw [hrs] at he run
    simp [resN, seqO] at he
    subst he
    have h0 : fn.results = #[] := by rw [← Array.toList_inj]; exact hrs
    refine ⟨_, _, run (by simp), tn.ev, tn.hr m.hr, ?_⟩
    rw [dif_neg (by simp [h0])]
    exact .tuple (by simp [h0]) (by simp)
  | cons r rs =>
    have h0 : fn.results.size = rs.length + 1 := by rw [← Array.length_toList, hrs]; rfl
    cases rs with
    | nil =>
      rw [hrs] at he
      simp only [List.map_cons, List.map_nil, resN] at he
      have hnt : v.notTup = true := by
        cases v <;> first | rfl | skip
        simp [retOk, h0] at hv
      have ha : fn.results = #[r] := by rw [← Array.toList_inj]; exact hrs
      obtain ⟨h1, h2⟩ := result_ok m hok (j := 0) (r := r) (by rw [hrs]; rfl) he hnt
      refine ⟨_, _, run (fun r' hr' => by rw [hrs] at hr'; simp at hr'; subst hr'; exact ⟨v, 0, by rw [hrs]; rfl, he, hnt⟩), tn.ev, tn.hr m.hr, ?_⟩
      simp only [ha]
      rw [dif_pos (by simp)]
      simpa [ha] using h2.part hnt (fun c => rfl)
    | cons r2 rs2 =>
      have hm : resN (fn.results.toList.map (resultOf P s)) = (seqO (fn.results.toList.map (resultOf P s))).map .tuple := by rw [hrs]; rfl
      rw [hm] at he
      simp only [Option.map_eq_some_iff] at he
      obtain ⟨vs, hvs, rfl⟩ := he
      obtain ⟨s1, s2⟩ := seqO_get hvs
      simp only [retOk, Bool.and_eq_true, List.all_eq_true] at hv
      have at_ : ∀ (j : Nat) r', fn.results.toList[j]? = some r' → ∃ v, vs[j]? = some v ∧ resultOf P s r' = some v ∧ v.notTup = true := by
        intro j r' hj
        have hl : j < vs.length := by rw [s1, List.length_map]; exact (List.getElem?_eq_some_iff.1 hj).1
        have h1 := s2 j vs[j] (by simp [hl])
        rw [List.getElem?_map, hj] at h1
        exact ⟨vs[j], by simp [hl], by simpa using h1, hv.2 _ (by simp)⟩
      refine ⟨_, _, run (fun r' hr' => by
        obtain ⟨j, hj⟩ := List.getElem?_of_mem hr'
        obtain ⟨v, _, h1, h2⟩ := at_ j r' hj
        exact ⟨v, j, hj, h1, h2⟩), tn.ev, tn.hr m.hr, ?_⟩
      rw [dif_neg (by simp [h0])]
      refine .tuple (by simp [s1]) fun i x u hx hu => ?_
      simp only [Array.getElem?_map, Option.map_eq_some_iff] at hu
      obtain ⟨r', hr', rfl⟩ := hu
      obtain ⟨v, h1, h2, h3⟩ := at_ i r' (by simpa using hr')
      rw [hx] at h1
      cases h1
      exact (result_ok m hok (j := i) (by simpa using hr') h2 h3).2

end
end Go.Ve

/- VE: deferred calls. -/
namespace Go.Ve
open Go

theorem getV_arg : ∀ (args : List AV) (i t : Nat), getV t (argFr i args) = if i ≤ t then (args[t - i]?).getD .undef else .undef
  | [], i, t => by simp [argFr, getV]
  | v :: l, i, t => by
    simp only [argFr, getV]
    by_cases h : i = t
    · subst h; simp
    · rw [beq_no h, cond_false, getV_arg l (i + 1) t]
      by_cases h2 : i ≤ t
      · rw [if_pos h2, if_pos (by omega), show t - i = (t - (i + 1)) + 1 by omega]
        simp
      · rw [if_neg h2, if_neg (by omega)]

/-- What a body leaves behind. -/
def BPost (w : World) (g : Gh) (r : AEnd × H) : Ending → World → Prop
  | .returned u, w' => ∃ v g', r.1 = .ret v ∧ Ev w g w' g' ∧ HR w' g' r.2 ∧ Rep w' g' (fun p c => some (.res p c)) v u
  | .panicked chain, w' => ∃ v u g', r.1 = .pan v ∧ chain = [{ v := u, recovered := false }] ∧ Ev w g w' g' ∧ HR w' g' r.2 ∧ Rep w' g' wh0 v u
  | .outgrown, _ => False

section
variable {P : Program} {w : World} {g : Gh} {h : H}

theorem whT_nil (t : Nat) : whT [] t = wh0 := by funext p c; simp [whT, getM, wh0]

/-! ### what is the caller's own -/
def Loc.mine : Loc → Bool
  | .tmp _ _ _ | .res _ _ => true
  | _ => false
def Gh.strip (g : Gh) : Gh := ⟨fun b => match g.own b with
  | some l => if l.mine then none else some l
  | none => none, g.st, g.rsv⟩
def Gh.merge (g g' : Gh) : Gh := ⟨fun b => match g.own b with
  | some l => if l.mine then some l else g'.own b
  | none => g'.own b, g'.st, g'.rsv⟩

theorem strip_own {b : Nat} {l : Loc} : g.strip.own b = some l ↔ g.own b = some l ∧ l.mine = false := by
  unfold Gh.strip
  simp only
  split
  · rename_i l' hl
    rw [hl]
    split
    · rename_i hm
      constructor
      · intro h; cases h
      · rintro ⟨h, h2⟩; cases h; rw [hm] at h2; cases h2
    · rename_i hm
      constructor
      · intro h; cases h; exact ⟨rfl, by simpa using hm⟩
      · rintro ⟨h, _⟩; exact h
  · rename_i hl
    rw [hl]; simp
theorem strip_mine {b : Nat} {l : Loc} (h : g.own b = some l) (hm : l.mine = true) : g.strip.own b = none := by
  cases hs : g.strip.own b with
  | none => rfl
  | some l' =>
    have := strip_own.1 hs
    rw [h] at this
    cases this.1
    rw [hm] at this
    cases this.2
theorem strip_none {b : Nat} (h : g.own b = none) : g.strip.own b = none := by
  cases hs : g.strip.own b with
  | none => rfl
  | some l' => have := (strip_own.1 hs).1; rw [h] at this; cases this
theorem strip_mono : Mono w g w g.strip := ⟨fun _ _ h => ⟨h, rfl⟩, fun b id h => strip_own.2 ⟨h, rfl⟩⟩
theorem HR.strip (hH : HR w g h) : HR w g.strip h :=
  ⟨fun id o hid ht => (hH.obj id o hid (by obtain ⟨b, hb⟩ := ht; exact ⟨b, (strip_own.1 hb).1⟩)).mono strip_mono (fun _ _ => ⟨rfl, fun _ h => h⟩) (fun _ _ hb => ⟨strip_own.2 ⟨hb, rfl⟩, rfl, fun _ h => h⟩),
   fun b b' id h1 h2 => hH.inj b b' id (strip_own.1 h1).1 (strip_own.1 h2).1, fun b l h1 => hH.lt b l (strip_own.1 h1).1, fun b id h1 => hH.bd b id (strip_own.1 h1).1, hH.stlt, fun b id h1 => hH.rsv b id (strip_own.1 h1).1, hH.rlt⟩
theorem ArgsRep.strip {args : List AV} {vals : Array Value} (ha : ArgsRep w g args vals) : ArgsRep w g.strip args vals := ⟨ha.1, fun j x v hx hv => (ha.2 j x v hx hv).mono strip_mono Moves.none⟩

section
variable {w' : World} {g' : Gh} {h' : H}

theorem merge_mine {b : Nat} {l : Loc} (h : g.own b = some l) (hm : l.mine = true) : (g.merge g').own b = some l := by
  simp [Gh.merge, h, hm]
theorem merge_else {b : Nat} (h : ∀ l, g.own b = some l → l.mine = false) : (g.merge g').own b = g'.own b := by
  unfold Gh.merge
  simp only
  split
  · rename_i l hl
    rw [if_neg (by rw [h l hl]; simp)]
  · rfl
theorem merge_of (hH : HR w g h) (ev : Ev w g.strip w' g') {b : Nat} {l : Loc} (hb : g'.own b = some l) : (g.merge g').own b = some l := by
  rw [merge_else, hb]
  intro l' hl'
  cases hm : l'.mine with
  | false => rfl
  | true =>
    have := (ev.old b (hH.lt b _ hl') (strip_mine hl' hm)).1
    rw [hb] at this; cases this
theorem merge_back {b : Nat} {l : Loc} (hb : (g.merge g').own b = some l) : (g.own b = some l ∧ l.mine = true) ∨ g'.own b = some l := by
  unfold Gh.merge at hb
  simp only at hb
  split at hb
  · rename_i l' hl'
    split at hb
    · rename_i hm; cases hb; exact .inl ⟨hl', hm⟩
    · exact .inr hb
  · exact .inr hb

theorem merge_mono (hH : HR w g h) (ev : Ev w g.strip w' g') : Mono w' g' w' (g.merge g') := ⟨fun _ _ h => ⟨h, rfl⟩, fun _ _ hb => merge_of hH ev hb⟩
theorem merge_keeps (hH : HR w g h) (ev : Ev w g.strip w' g') (l : Loc) : Keeps w' g' w' (g.merge g') l l := fun _ hb => ⟨merge_of hH ev hb, rfl, fun _ h => h⟩
theorem merge_rep (hH : HR w g h) (ev : Ev w g.strip w' g') {wh : Wh} {x : AV} {v : Value} (hr : Rep w' g' wh x v) : Rep w' (g.merge g') wh x v := hr.mono (merge_mono hH ev) fun _ _ l hl => ⟨l, hl, merge_keeps hH ev l⟩
theorem merge_hr (hH : HR w g h) (ev : Ev w g.strip w' g') (hH' : HR w' g' h') : HR w' (g.merge g') h' where
  obj id o hid ht := (hH'.obj id o hid (by obtain ⟨b, hb⟩ := ht; rcases merge_back hb with ⟨_, hm⟩ | hb; cases hm; exact ⟨b, hb⟩)).mono (merge_mono hH ev) (fun _ _ => ⟨rfl, fun _ h => h⟩) (fun _ => merge_keeps hH ev _)
  inj b b' id h1 h2 := by
    rcases merge_back h1 with ⟨_, hm⟩ | h1
    · cases hm
    · rcases merge_back h2 with ⟨_, hm⟩ | h2
      · cases hm
      · exact hH'.inj b b' id h1 h2
  lt b l h1 := by
    rcases merge_back h1 with ⟨h1, _⟩ | h1
    · exact Nat.lt_of_lt_of_le (hH.lt b l h1) ev.size
    · exact hH'.lt b l h1
  bd b id h1 := by
    rcases merge_back h1 with ⟨_, hm⟩ | h1
    · cases hm
    · exact hH'.bd b id h1
  stlt := hH'.stlt
  rsv b id h1 := by
    rcases merge_back h1 with ⟨_, hm⟩ | h1
    · cases hm
    · exact hH'.rsv b id h1
  rlt := hH'.rlt
theorem merge_ev (hH : HR w g h) (ev : Ev w g.strip w' g') : Ev w g w' (g.merge g') where
  size := ev.size
  st := ev.st
  obj b id hb := merge_of hH ev (ev.obj b id (strip_own.2 ⟨hb, rfl⟩))
  old b hlt hb := by
    obtain ⟨h1, h2, h3⟩ := ev.old b hlt (strip_none hb)
    refine ⟨?_, h2, h3⟩
    rw [merge_else (by intro l hl; rw [hb] at hl; cases hl)]
    exact h1
  os := ev.os
  out := ev.out
  rsv id h := ev.rsv id h
theorem merge_tmp (hH : HR w g h) (ev : Ev w g.strip w' g') (t p c : Nat) : Keeps w g w' (g.merge g') (.tmp t p c) (.tmp t p c) := fun b hb => by
  obtain ⟨_, h2, h3⟩ := ev.old b (hH.lt b _ hb) (strip_mine hb rfl)
  exact ⟨merge_mine hb rfl, h2, h3⟩
end


theorem callFunc_enter {f : FuncId} {fn : Func} {c : Code} (hf : P.funcs[f]? = some fn) (hb : fn.body = some c) (hok : resOk fn = true) (vals : Array Value) : (callFunc f vals).run P w = .ok (.enter f vals) w := by
  simp only [resOk, Bool.and_eq_true, bne_iff_ne, ne_eq] at hok
  simp [callFunc, hf, hok.2, hb]

theorem wpS_mono {c : Code} {Q Q' : Exit → Act → List Frame → World → Prop} {a : Act} {cs : List Frame} (h : c.wpS P Q a cs w) (hm : ∀ e a cs w, Q e a cs w → Q' e a cs w) : c.wpS P Q' a cs w :=
  fun b k hb hr => let ⟨e, a', cs', w', q, r⟩ := h b k hb hr; ⟨e, a', cs', w', hm _ _ _ _ q, r⟩

/-- What recover hands back, and the frames behind it. -/
def Recovers (cs : List Frame) (v : Value) (cs' : List Frame) : Prop := recoverD cs = some (v, cs') ∨ (recoverD cs = none ∧ v = .nilIface ∧ cs' = cs)

theorem wpS_recover {Q : Exit → Act → List Frame → World → Prop} {a : Act} {cs cs' : List Frame} {id : Nat} {ops : Array Oper} {o : Oper} {v : Value}
    (h0 : ops[0]? = some o) (hg : o.guard = none) (hr : (execOp a.eval o).run P w = .ok .recover w) (hrec : Recovers cs v cs')
    (h : wpOps P ops (fun e a' w' => Q e a' cs' w') (List.range' 1 (ops.size - 1)) (a.put o.dst v) w) : (Code.region id ops false).wpS P Q a cs w := by
  intro b k hb hro
  obtain ⟨e, a', w', hq, harr⟩ := wp_ops _ _ _ h b k cs'
  have hsz : 0 < ops.size := (Array.getElem?_eq_some_iff.1 h0).1
  have hl : List.range ops.size = 0 :: List.range' 1 (ops.size - 1) := by
    conv => lhs; rw [List.range_eq_range', show ops.size = (ops.size - 1) + 1 by omega, List.range'_succ]
  have hs := step_region (P := P) (b := b) (a := a) (k := k) (cs := cs) (w := w) (ops := ops) (id := id)
  rw [hl] at hs
  refine ⟨e, a', cs', w', hq, .of_steps (.head hs (.one ?_)) harr⟩
  have hw : Region.wanted o (yielded ops a.tmps) = true := by simp [Region.wanted, hg]
  have hgo := stepG_op (P := P) (b := b) (k := k) (cs := cs) (w := w) (rest := List.range' 1 (ops.size - 1)) h0 hw
  have hfin : ∀ v, (b.at a (.inRegion ops (0 :: List.range' 1 (ops.size - 1)) :: k)).finish v = b.at (a.put o.dst v) (.inRegion ops (List.range' 1 (ops.size - 1)) :: k) := by
    intro v; rw [Frame.finish_at, h0]; rfl
  have hk : (b.at a (.inRegion ops (0 :: List.range' 1 (ops.size - 1)) :: k)).kind = .deferred := hb
  have htr := tryRecover_deferred hk cs
  refine step_lone_go ?_
  rw [hgo, ← hfin]
  simp only [Frame.at] at htr ⊢
  rcases hrec with hrec | ⟨hrec, rfl, rfl⟩
  · simp [stepG.apply, hr, htr, hrec]
  · simp [stepG.apply, hr, htr, hrec]

theorem isRecover_run {o : Oper} (h : isRecover o = true) (ρ : Operand → Value) : o.guard = none ∧ (execOp ρ o).run P w = .ok .recover w := by
  unfold isRecover at h
  split at h
  · rename_i ho hg
    exact ⟨hg, by simp [execOp, ho, resolve, invoke, builtin]⟩
  · cases h

theorem execD_sound {R : Type} {call : Cl} (hcall : CallOk P call) {A : FAnn} (hdr : A.drawn = false) (hmix : P.follows .mixedOrders = true) (hq : ∀ f ∈ A.q, Still call f) {n : Nat} {res : R} {cs cs' : List Frame} {x : Value} (hrec : Recovers cs x cs') {v : AV} : ∀ (c : Code) (an : Ann) (k : K R) (s : St) (a : Act) (w : World) (g : Gh) (w0 : World) (g0 : Gh),
    execD P A call n c an k v s = some res → M A.nt s a w g → Rep w g wh0 v x → Ev w0 g0 w g → c.wpS P (fun e a' cs1 w' => cs1 = cs' ∧ Post k res A.nt w0 g0 e a' w') a cs w := by
  intro c
  induction c with
  | region r ops draw =>
    intro an k s a w g w0 g0 he m hx ev
    cases draw with
    | true => simp [execD] at he
    | false =>
      simp only [execD, regionD] at he
      cases hops : ops.toList with
      | nil => rw [hops] at he; cases he
      | cons o rest =>
        rw [hops] at he
        simp only at he
        cases hr : isRecover o with
        | false => rw [hr] at he; cases he
        | true =>
          rw [hr] at he
          simp only [cond_true] at he
          rw [← hops] at he
          have he := regionC_plain _ _ _ _ _ he
          have h0 : ops[0]? = some o := by rw [← Array.getElem?_toList, hops]; rfl
          obtain ⟨hg, hrun⟩ := isRecover_run (P := P) (w := w) hr a.eval
          refine wpS_recover h0 hg hrun hrec ?_
          have hen : (enum 0 ops.toList).tail = (List.range' 1 (ops.size - 1)).filterMap fun i => (ops[i]?).map fun o => (i, o) := by
            have h1 := enum_range ops
            have hsz : ops.size = rest.length + 1 := by rw [← Array.length_toList, hops]; rfl
            have h2 : List.range ops.size = 0 :: List.range' 1 (ops.size - 1) := by
              conv => lhs; rw [List.range_eq_range', show ops.size = (ops.size - 1) + 1 by omega, List.range'_succ]
            rw [h2] at h1
            unfold ordered at h1
            rw [List.filterMap_cons, h0] at h1
            simp only [Option.map_some] at h1
            rw [← h1]; rfl
          rw [hen] at he
          have hput : FR w g (putV A.nt o.dst v s.fr) (putM o.dst 0 s.ob) (a.put o.dst x).tmps := by
            refine m.fr.put m.size (hx.mono (.refl w g) fun p c l hl => ?_)
            exfalso
            unfold whD at hl
            split at hl
            · simp at hl
            · cases hl
          have := region_sound (r := r) hcall hdr (k := k) (res := res) (A := A) _ _ _ _ _ (a.put o.dst x) w g w0 g0 he hput m.hr (by rw [put_size]; exact m.size) (by rw [put_defers]; exact m.df) ev
          show wpOps P ops (fun e a' w' => cs' = cs' ∧ Post k res A.nt w0 g0 e a' w') _ _ _
          have hQ : (fun e a' w' => cs' = cs' ∧ Post k res A.nt w0 g0 e a' w') = Post k res A.nt w0 g0 := by funext e a' w'; simp
          rw [hQ]
          exact this
  | seq c1 c2 ih1 ih2 =>
    intro an k s a w g w0 g0 he m hx ev
    simp only [execD] at he
    refine wpS_seq (wpS_mono (ih1 _ _ _ a w g w0 g0 he (m.enter _) hx ev) ?_)
    rintro e a' cs1 w' ⟨rfl, hp⟩
    cases e with
    | normal =>
      obtain ⟨s', g', m', ev', hk⟩ := hp
      exact wpS_of_wp (wp_mono (exec_sound hcall hdr hmix hq _ _ _ _ a' w' g' w0 g0 hk (m'.enter _) ev') fun e a' w' hp => ⟨rfl, hp⟩)
    | exit id => exact ⟨rfl, hp⟩
    | ret => exact ⟨rfl, hp⟩
    | panic ch => exact ⟨rfl, hp⟩
    | goto l => exact ⟨rfl, hp⟩
    | outgrown => exact ⟨rfl, hp⟩
  | _ => intro an k s a w g w0 g0 he m hx ev; simp [execD] at he

theorem DefsRep.nil {es : List Deferred} (h : DefsRep w g [] es) : es = [] := by
  cases es with
  | nil => rfl
  | cons e es => exact h.elim

/-- The frame below: it returns, or it panics; and behind the call. -/
def Below1 (u u' : FrameMode) (x : Value) : Prop := (u = .returning ∧ x = .nilIface ∧ u' = .returning) ∨ (u = .panicking [{ v := x, recovered := false }] ∧ u' = .panicking [{ v := x, recovered := true }])
theorem Below1.recovers {u u' : FrameMode} {x : Value} (h : Below1 u u' x) {c : Frame} (hc : c.mode = u) (cs : List Frame) : Recovers (c :: cs) x ({ c with mode := u' } :: cs) := by
  rcases h with ⟨rfl, rfl, rfl⟩ | ⟨rfl, rfl⟩
  · exact .inr ⟨by simp [recoverD, hc], rfl, by rw [← hc]⟩
  · exact .inl (by simp [recoverD, hc])

theorem dcall_raw {call : Cl} (hcall : CallOk P call) {A : FAnn} (hmix : P.follows .mixedOrders = true) {n : Nat} {f : FuncId} {args : List AV} {h h' : H} {v : AV} (he : dcall P A call n f args h v = some h') {vals : Array Value} (hH : HR w g h) (ha : ArgsRep w g args vals) {u u' : FrameMode} {x : Value} (hu : Below1 u u' x) (hx : Rep w g wh0 v x) :
    (callFunc f vals).run P w = .ok (.enter f vals) w ∧ CallsD P f vals u w fun e u1 w' => u1 = u' ∧ ∃ r, e = .returned r ∧ ∃ g', Ev w g w' g' ∧ HR w' g' h' := by
  unfold dcall at he
  split at he
  · rename_i d fn hd hf
    split at he
    · rename_i c hb
      split at he
      · rename_i hok
        simp only [Bool.and_eq_true] at hok
        obtain ⟨⟨hok1, hle⟩, hsz⟩ := hok
        have hle := Nat.le_of_ble_eq_true hle
        refine ⟨callFunc_enter hf hb hok1 vals, callsD_of_wpS hf hb fun c₀ cs hc => ?_⟩
        have m : M fn.ntmps ⟨argFr 0 args, [], [], h⟩ { tmps := vals ++ Array.replicate (fn.ntmps - vals.size) undef, defers := [] } w g := by
          refine ⟨fun t => ?_, hH, by simp; omega, trivial⟩
          rw [whT_nil, getV_arg, if_pos (Nat.zero_le _), Nat.sub_zero]
          by_cases ht : t < args.length
          · have h1 : args[t]? = some args[t] := by simp [ht]
            have htv : t < vals.size := by rw [ha.1]; exact ht
            rw [h1]
            simp only [Option.getD_some]
            have h2 : vals[t]? = some vals[t] := by simp [htv]
            have h3 : (vals ++ Array.replicate (fn.ntmps - vals.size) undef).getD t undef = vals[t] := by
              rw [Array.getD_eq_getD_getElem?, Array.getElem?_append_left htv, h2]; rfl
            simp only [h3]
            exact ha.2 t _ _ h1 h2
          · have h1 : args[t]? = none := by simp; omega
            rw [h1]
            exact .undef
        refine wpS_mono (execD_sound hcall (A := { d.toF with nt := fn.ntmps }) rfl hmix (fun f hf => by cases hf) (hu.recovers hc cs) c _ _ _ _ w g w g he (m.enter d.an) hx (.refl w g)) ?_
        rintro e a' cs1 w' ⟨rfl, hp⟩
        have hres : (Go.results fn a'.tmps).run P w' = .ok (.tuple #[]) w' := by
          have h0 : fn.results = #[] := Array.size_eq_zero_iff.1 (Nat.eq_of_beq_eq_true hsz)
          simp [Go.results, h0]
        have fin : ∀ s g', M fn.ntmps s a' w' g' → Ev w g w' g' → doneD s = some h' → a'.defers = [] ∧ ∃ g', Ev w g w' g' ∧ HR w' g' h' := by
          intro s g' m' ev hfin
          unfold doneD at hfin
          split at hfin
          · rename_i hds
            cases hfin
            have := m'.df
            rw [hds] at this
            exact ⟨this.nil, g', ev, m'.hr⟩
          · cases hfin
        cases e with
        | normal => obtain ⟨s, g', m', ev, hk⟩ := hp; obtain ⟨h1, h2⟩ := fin s g' m' ev hk; exact ⟨h1, u', rfl, _, hres, rfl, _, rfl, h2⟩
        | ret => obtain ⟨s, g', m', ev, hk⟩ := hp; obtain ⟨h1, h2⟩ := fin s g' m' ev hk; exact ⟨h1, u', rfl, _, hres, rfl, _, rfl, h2⟩
        | exit id => obtain ⟨s, g', m', ev, hk⟩ := hp; cases hk
        | panic chain => obtain ⟨s, g', v, u, m', ev, hch, hr, hk⟩ := hp; cases hk
        | goto l => exact hp
        | outgrown => exact hp.elim
      · cases he
    · cases he
  · cases he

theorem dcall_sound {call : Cl} (hcall : CallOk P call) {A : FAnn} (hmix : P.follows .mixedOrders = true) {n : Nat} {f : FuncId} {args : List AV} {h h' : H} {v : AV} (he : dcall P A call n f args h v = some h') {vals : Array Value} (hH : HR w g h) (ha : ArgsRep w g args vals) {u u' : FrameMode} {x : Value} (hu : Below1 u u' x) (hx : Rep w g wh0 v x) :
    (callFunc f vals).run P w = .ok (.enter f vals) w ∧ CallsD P f vals u w fun e u1 w' => u1 = u' ∧ ∃ r, e = .returned r ∧ ∃ g', Ev w g w' g' ∧ HR w' g' h' ∧ ∀ t p c, Keeps w g w' g' (.tmp t p c) (.tmp t p c) := by
  obtain ⟨h1, h2⟩ := dcall_raw hcall hmix he hH.strip ha.strip hu (hx.mono strip_mono Moves.none)
  refine ⟨h1, h2.mono ?_⟩
  rintro e u1 w' ⟨e1, r, e2, g', ev, hH'⟩
  exact ⟨e1, r, e2, _, merge_ev hH ev, merge_hr hH ev hH', merge_tmp hH ev⟩

/-- A body's way out, through what was put off. -/
theorem leave_sound {call : Cl} (hcall : CallOk P call) {A : FAnn} (hmix : P.follows .mixedOrders = true) {n : Nat} {fn : Func} (hok : resOk fn = true) {nt : Nat} {fr : List (Nat × AV)} {ob : List (Nat × Nat)} {tmps : Array Value} (hn : nt ≤ tmps.size) {r : AEnd × H} (hro : retOk fn r.1 = true) {w0 : World} {g0 : Gh} :
    ∀ (ds : List ADef) (es : List Deferred) (m : Option AV) (u : FrameMode) (h : H) (w : World) (g : Gh), leaveA P (dcall P A call n) fn ds m fr ob h = some r → FR w g fr ob tmps → HR w g h → DefsRep w g ds es →
    ((m = none ∧ u = .returning) ∨ ∃ v x, m = some v ∧ u = .panicking [{ v := x, recovered := false }] ∧ Rep w g wh0 v x) → Ev w0 g0 w g → Leaves P fn tmps (BPost w0 g0 r) es u w
  | [], es, m, u, h, w, g, he, hF, hH, hd, hm, ev => by
    obtain rfl := hd.nil
    rcases hm with ⟨rfl, rfl⟩ | ⟨v, x, rfl, rfl, hx⟩
    · simp only [leaveA, Option.map_eq_some_iff] at he
      obtain ⟨v, hv, rfl⟩ := he
      obtain ⟨u, g2, h1, h2, h3, h4⟩ := results_ok (nt := nt) (s := ⟨fr, ob, [], h⟩) (a := { tmps := tmps, defers := [] }) ⟨hF, hH, hn, trivial⟩ hok hv hro
      exact ⟨u, h1, v, g2, rfl, ev.trans h2, h3, h4⟩
    · simp only [leaveA, Option.some.injEq] at he
      subst he
      exact ⟨v, x, g, rfl, rfl, ev, hH, hx⟩
  | d :: ds, [], m, u, h, w, g, he, hF, hH, hd, hm, ev => hd.elim
  | d :: ds, e :: es, m, u, h, w, g, he, hF, hH, hd, hm, ev => by
    obtain ⟨⟨cap, ht, ha⟩, hds⟩ := hd
    have key : ∀ (v : AV) (x : Value) (u' : FrameMode), Below1 u u' x → Rep w g wh0 v x → settle u' = .returning → ((dcall P A call n d.f d.args h v).bind fun h' => leaveA P (dcall P A call n) fn ds none fr ob h') = some r → Leaves P fn tmps (BPost w0 g0 r) (e :: es) u w := by
      intro v x u' hb hx hs he
      rw [Option.bind_eq_some_iff] at he
      obtain ⟨h', hdc, he⟩ := he
      obtain ⟨h1, h2⟩ := dcall_sound hcall hmix hdc hH ha hb hx
      refine ⟨?_, .func d.f, cap, d.f, e.args ++ cap, ht, ?_, h2.mono ?_⟩
      · rcases hb with ⟨rfl, _⟩ | ⟨rfl, _⟩ <;> simp
      · rw [ht]; exact h1
      · rintro e1 u1 w' ⟨rfl, r', rfl, g', ev', hH', keep⟩
        simp only
        rw [hs]
        exact leave_sound hcall hmix hok hn hro ds es none .returning h' w' g' he (hF.mono ev'.mono fun t p c hb => ⟨hb, keep t p c⟩) hH' (hds.mono ev'.mono) (.inl ⟨rfl, rfl⟩) (ev.trans ev')
    rcases hm with ⟨rfl, rfl⟩ | ⟨v, x, rfl, rfl, hx⟩
    · exact key .nilIface .nilIface .returning (.inl ⟨rfl, rfl, rfl⟩) .nilIface rfl he
    · exact key v x _ (.inr ⟨rfl, rfl⟩) hx rfl he
end
end Go.Ve

/- VE: a call. -/
namespace Go.Ve
open Go
section
variable {P : Program} {w : World} {g : Gh} {h : H}

theorem body_sound {call : Cl} (hcall : CallOk P call) {A : FAnn} {f : FuncId} {fn : Func} {an : Ann} {n : Nat} {c : Code} {args : List AV} {r : AEnd × H} (hf : P.funcs[f]? = some fn) (hb : fn.body = some c) (hmix : P.follows .mixedOrders = true) (hq : ∀ f ∈ A.q, Still call f)
    (hok : resOk fn = true) (hle : args.length ≤ fn.ntmps) (hro : retOk fn r.1 = true) (he : body P A call fn an n c args h = some r) {vals : Array Value} (hH : HR w g h) (ha : ArgsRep w g args vals) : Calls P f vals w (BPost w g r) := by
  refine calls_of_wp_defers hf hb ?_
  have m : M (A.fit fn).nt ⟨argFr 0 args, [], [], h⟩ { tmps := vals ++ Array.replicate (fn.ntmps - vals.size) undef, defers := [] } w g := by
    refine ⟨fun t => ?_, hH, by simp [FAnn.fit]; omega, trivial⟩
    rw [whT_nil, getV_arg, if_pos (Nat.zero_le _), Nat.sub_zero]
    by_cases ht : t < args.length
    · have h1 : args[t]? = some args[t] := by simp [ht]
      have htv : t < vals.size := by rw [ha.1]; exact ht
      rw [h1]
      simp only [Option.getD_some]
      have h2 : vals[t]? = some vals[t] := by simp [htv]
      have h3 : (vals ++ Array.replicate (fn.ntmps - vals.size) undef).getD t undef = vals[t] := by
        rw [Array.getD_eq_getD_getElem?, Array.getElem?_append_left htv, h2]; rfl
      simp only [h3]
      exact ha.2 t _ _ h1 h2
    · have h1 : args[t]? = none := by simp; omega
      rw [h1]
      exact .undef
  have ex := exec_sound hcall (A := A.fit fn) rfl hmix hq c an (kTop P A call n fn) _ _ w g w g he (m.enter an) (.refl w g)
  refine wp_mono ex ?_
  intro e a' w' hp
  cases e with
  | normal => obtain ⟨s, g', m', ev, hk⟩ := hp; exact leave_sound hcall hmix hok m'.size hro _ _ _ _ _ _ _ hk m'.fr m'.hr m'.df (.inl ⟨rfl, rfl⟩) ev
  | ret => obtain ⟨s, g', m', ev, hk⟩ := hp; exact leave_sound hcall hmix hok m'.size hro _ _ _ _ _ _ _ hk m'.fr m'.hr m'.df (.inl ⟨rfl, rfl⟩) ev
  | exit id => obtain ⟨s, g', m', ev, hk⟩ := hp; cases hk
  | panic chain =>
    obtain ⟨s, g', v, u, m', ev, rfl, hr, hk⟩ := hp
    exact leave_sound hcall hmix hok m'.size hro _ _ _ _ _ _ _ hk m'.fr m'.hr m'.df (.inr ⟨v, u, rfl, rfl, hr⟩) ev
  | goto l => exact hp
  | outgrown => exact hp

theorem BPost.toCPost (hH : HR w g h) {r : AEnd × H} {e : Ending} {w' : World} (hp : BPost w g.strip r e w') : CPost w g r e w' := by
  cases e with
  | returned u =>
    obtain ⟨v, g', h1, ev, hH', hr⟩ := hp
    exact ⟨v, g.merge g', h1, merge_ev hH ev, merge_hr hH ev hH', merge_tmp hH ev, merge_rep hH ev hr⟩
  | panicked chain =>
    obtain ⟨v, u, g', h1, h2, ev, hH', hr⟩ := hp
    exact ⟨v, u, g.merge g', h1, h2, merge_ev hH ev, merge_hr hH ev hH', merge_tmp hH ev, merge_rep hH ev hr⟩
  | outgrown => exact hp.elim

end
end Go.Ve

/- VE: a call by value alone. -/
namespace Go.Ve
open Go

section
variable {P : Program} {w : World} {g : Gh} {h : H}

theorem pureL_mem {l : List AV} (h : pureL l = true) : ∀ c ∈ l, c.pure = true := by
  induction l with
  | nil => simp
  | cons x l ih =>
    simp only [pureL, Bool.and_eq_true] at h
    intro c hc
    rcases List.mem_cons.1 hc with rfl | hc
    · exact h.1
    · exact ih h.2 c hc
theorem pureR_mem {l : List (List AV)} (h : pureR l = true) : ∀ r ∈ l, pureL r = true := by
  induction l with
  | nil => simp
  | cons x l ih =>
    simp only [pureR, Bool.and_eq_true] at h
    intro c hc
    rcases List.mem_cons.1 hc with rfl | hc
    · exact h.1
    · exact ih h.2 c hc

/-- What leads to no object stands in any world in which what stays has stayed. -/
theorem Rep.pureMono {g2 : Gh} (hst : ∀ b k, g.st b k → g2.st b k) {wh : Wh} {x : AV} {v : Value} (hr : Rep w g wh x v) : ∀ {wh2 : Wh}, x.pure = true → Moves w g w g2 wh wh2 → Rep w g2 wh2 x v := by
  induction hr with
  | undef => intros; exact .undef
  | bool => intros; exact .bool
  | int => intros; exact .int
  | str => intros; exact .str
  | nilPtr => intros; exact .nilPtr
  | ptr ho => intro wh2 hp; simp [AV.pure] at hp
  | rptr f h1 _ ih =>
    intro wh2 hp _
    simp only [AV.pure] at hp
    exact .rptr f (fun j c hj => ⟨(h1 j c hj).1, hst _ _ (h1 j c hj).2.1, (h1 j c hj).2.2⟩) (fun j c hj => ih j c hj (pureL_mem hp c (List.mem_of_getElem? hj)) Moves.none)
  | list b off s f hn hc ha hs h1 _ hroom ih =>
    intro wh2 hp mv
    simp only [AV.pure] at hp
    exact .list b off s f hn hc ha hs (fun i r j cl hi hj => ⟨(h1 i r j cl hi hj).1, hst _ _ (h1 i r j cl hi hj).2.1, (h1 i r j cl hi hj).2.2⟩)
      (fun i r j cl hi hj => ih i r j cl hi hj (pureL_mem (pureR_mem hp r (List.mem_of_getElem? hi)) cl (List.mem_of_getElem? hj)) Moves.none) (hroom.mono (mv 0 0))
  | slc hl h => intro wh2 hp; simp [AV.pure] at hp
  | nilMap => intros; exact .nilMap
  | map ho => intro wh2 hp; simp [AV.pure] at hp
  | nilFunc => intros; exact .nilFunc
  | func h1 h2 _ _ i1 i2 =>
    intro wh2 hp _
    simp only [AV.pure, Bool.and_eq_true] at hp
    exact .func h1 h2 (fun i x y hx hy => i1 i x y hx hy (pureL_mem hp.1 x (List.mem_of_getElem? hx)) Moves.none) (fun i x y hx hy => i2 i x y hx hy (pureL_mem hp.2 x (List.mem_of_getElem? hx)) Moves.none)
  | nilIface => intros; exact .nilIface
  | iface _ ih => intro wh2 hp _; simp only [AV.pure] at hp; exact .iface (ih hp Moves.none)
  | agg h1 _ ih => intro wh2 hp mv; simp only [AV.pure] at hp; exact .agg h1 fun j c v hj hv => ih j c v hj hv (pureL_mem hp c (List.mem_of_getElem? hj)) (fun _ _ => mv 0 j)
  | tuple h1 _ ih => intro wh2 hp mv; simp only [AV.pure] at hp; exact .tuple h1 fun i x v hx hv => ih i x v hx hv (pureL_mem hp x (List.mem_of_getElem? hx)) (fun _ j => mv i j)

/-- One value, its array (if it is a slice into one) taken as it is. -/
theorem freezeCell_rep {g2 : Gh} (hH : HR w g h) (hst : ∀ b k, g.st b k → g2.st b k) (hob : ∀ b id, g.own b = some (.obj id) → ∀ k, g2.st b k) {wh wh2 : Wh} {x y : AV} {v : Value} (hr : Rep w g wh x v) (he : x.freezeCell h = some y) (hp : y.pure = true)
    (mv : Moves w g w g2 wh wh2) : Rep w g2 wh2 y v := by
  unfold AV.freezeCell at he
  split at he
  · rename_i id off len s
    split at he
    · rename_i cells ro hid
      split at he
      · rename_i hle
        cases he
        simp only [AV.pure] at hp
        obtain ⟨c1, c2⟩ := chunks_get s len (cells.drop off)
        cases hr with
        | @slc _ _ _ _ _ al c hlc hac =>
          have rowl : ∀ r ∈ chunks s len (cells.drop off), r.length = s := by
            intro r hr
            obtain ⟨i, hi⟩ := List.getElem?_of_mem hr
            have hil : i < len := by have := (List.getElem?_eq_some_iff.1 hi).1; omega
            rw [c2 i hil] at hi
            cases hi
            have : (i + 1) * s ≤ len * s := Nat.mul_le_mul_right _ (by omega)
            rw [Nat.add_mul] at this
            simp; omega
          by_cases hl0 : len = 0
          · subst hl0
            exact .list 0 0 s (fun _ _ => undef) (by simp [c1]) hlc (fun h => absurd (List.eq_nil_of_length_eq_zero c1) h) rowl (fun i r j cl hi => by simp [chunks] at hi) (fun i r j cl hi => by simp [chunks] at hi) trivial
          · rcases hac with rfl | ⟨b, rfl, ho⟩
            · omega
            · cases hH.obj id _ hid ⟨_, ho⟩ with
              | @arr _ _ b' cs ty fz ho' hb hsz hcs hro =>
                obtain rfl := hH.inj _ _ _ ho ho'
                have cell : ∀ (i : Nat) r (j : Nat) cl, (chunks s len (cells.drop off))[i]? = some r → r[j]? = some cl → cells[off + i * s + j]? = some cl ∧ ∃ u, cs[off + i * s + j]? = some u := by
                  intro i r j cl hi hj
                  have hil : i < len := by have := (List.getElem?_eq_some_iff.1 hi).1; omega
                  rw [c2 i hil] at hi
                  cases hi
                  rw [List.getElem?_take] at hj
                  split at hj
                  · rw [List.getElem?_drop, List.getElem?_drop] at hj
                    rw [← Nat.add_assoc] at hj
                    refine ⟨hj, ?_⟩
                    have := (List.getElem?_eq_some_iff.1 hj).1
                    exact ⟨cs[off + i * s + j]'(by omega), by simp [show off + i * s + j < cs.size by omega]⟩
                  · cases hj
                refine .list b off s (fun i j => (cs[off + i * s + j]?).getD undef) (by simp [c1]) hlc (fun _ => rfl) rowl (fun i r j cl hi hj => ?_) (fun i r j cl hi hj => ?_) trivial
                · obtain ⟨h1, u, h2⟩ := cell i r j cl hi hj
                  refine ⟨(hcs _ cl u h1 h2).1, hob b id ho _, ?_⟩
                  simp [World.cell?, hb, h2]
                · obtain ⟨h1, u, h2⟩ := cell i r j cl hi hj
                  simp only [h2, Option.getD_some]
                  exact (hcs _ cl u h1 h2).2.weak.pureMono hst (pureL_mem (pureR_mem hp r (List.mem_of_getElem? hi)) cl (List.mem_of_getElem? hj)) Moves.none
      · cases he
    · cases he
  · cases he
    exact hr.pureMono hst hp mv

theorem mapM_get {α β : Type} {f : α → Option β} : ∀ {l : List α} {m : List β}, l.mapM f = some m → m.length = l.length ∧ ∀ (j : Nat) y, m[j]? = some y → ∃ x, l[j]? = some x ∧ f x = some y
  | [], m, h => by simp at h; subst h; simp
  | x :: l, m, h => by
    simp only [List.mapM_cons, Option.bind_eq_bind, Option.pure_def, Option.bind_eq_some_iff, Option.some.injEq] at h
    obtain ⟨y, h1, m', h2, rfl⟩ := h
    obtain ⟨h3, h4⟩ := mapM_get h2
    refine ⟨by simp [h3], fun j z hj => ?_⟩
    cases j with
    | zero => simp at hj; subst hj; exact ⟨x, by simp, h1⟩
    | succ j =>
      obtain ⟨x', h5, h6⟩ := h4 j z (by simpa using hj)
      exact ⟨x', by simpa using h5, h6⟩

theorem freezeAgg_rep {g2 : Gh} (hH : HR w g h) (hst : ∀ b k, g.st b k → g2.st b k) (hob : ∀ b id, g.own b = some (.obj id) → ∀ k, g2.st b k) {wh wh2 : Wh} {x y : AV} {v : Value} (hr : Rep w g wh x v) (he : x.freezeAgg h = some y) (hp : y.pure = true)
    (mv : Moves w g w g2 wh wh2) : Rep w g2 wh2 y v := by
  cases x with
  | agg cs =>
    simp only [AV.freezeAgg, Option.map_eq_some_iff] at he
    obtain ⟨ys, hm, rfl⟩ := he
    obtain ⟨h3, h4⟩ := mapM_get hm
    simp only [AV.pure] at hp
    cases hr with
    | agg h1 h2 =>
      refine .agg (by omega) fun j c u hj hu => ?_
      obtain ⟨x, hx, hf⟩ := h4 j c hj
      exact freezeCell_rep hH hst hob (h2 j x u hx hu) hf (pureL_mem hp c (List.mem_of_getElem? hj)) (fun _ _ => mv 0 j)
  | _ => exact freezeCell_rep hH hst hob hr he hp mv

theorem freeze_rep {g2 : Gh} (hH : HR w g h) (hst : ∀ b k, g.st b k → g2.st b k) (hob : ∀ b id, g.own b = some (.obj id) → ∀ k, g2.st b k) {wh wh2 : Wh} {x y : AV} {v : Value} (hr : Rep w g wh x v) (he : x.freeze h = some y) (hp : y.pure = true)
    (mv : Moves w g w g2 wh wh2) : Rep w g2 wh2 y v := by
  cases x with
  | tuple cs =>
    simp only [AV.freeze, Option.map_eq_some_iff] at he
    obtain ⟨ys, hm, rfl⟩ := he
    obtain ⟨h3, h4⟩ := mapM_get hm
    simp only [AV.pure] at hp
    cases hr with
    | tuple h1 h2 =>
      refine .tuple (by omega) fun j c u hj hu => ?_
      obtain ⟨x, hx, hf⟩ := h4 j c hj
      exact freezeAgg_rep hH hst hob (h2 j x u hx hu) hf (pureL_mem hp c (List.mem_of_getElem? hj)) (fun _ i => mv j i)
  | _ => exact freezeAgg_rep hH hst hob hr he hp mv

end
end Go.Ve

/- VE: all calls. -/
namespace Go.Ve
open Go

theorem mapM_id {f : AV → Option AV} : ∀ {l m : List AV}, (∀ x ∈ l, f x = some x) → l.mapM f = some m → m = l
  | [], m, _, h => by simp at h; exact h
  | x :: l, m, hf, h => by
    simp only [List.mapM_cons, Option.bind_eq_bind, Option.pure_def, Option.bind_eq_some_iff, Option.some.injEq] at h
    obtain ⟨y, h1, m', h2, rfl⟩ := h
    rw [hf x (by simp)] at h1
    cases h1
    rw [mapM_id (fun x hx => hf x (by simp [hx])) h2]
theorem mapM_id' {f : AV → Option AV} : ∀ {l : List AV}, (∀ x ∈ l, f x = some x) → l.mapM f = some l
  | [], _ => rfl
  | x :: l, hf => by
    have h1 := mapM_id' (l := l) (fun y hy => hf y (List.mem_cons_of_mem _ hy))
    simp [hf x (by simp), h1]

theorem freezeCell_pure {h : H} {x : AV} (hp : x.pure = true) : x.freezeCell h = some x := by
  cases x <;> first | rfl | simp [AV.pure] at hp
theorem freezeAgg_pure {h : H} {x : AV} (hp : x.pure = true) : x.freezeAgg h = some x := by
  cases x with
  | agg cs =>
    simp only [AV.pure] at hp
    simp only [AV.freezeAgg, mapM_id' (fun x hx => freezeCell_pure (h := h) (pureL_mem hp x hx)), Option.map_some]
  | _ => exact freezeCell_pure (h := h) hp
theorem freeze_pure {h : H} {x : AV} (hp : x.pure = true) : x.freeze h = some x := by
  cases x with
  | tuple cs =>
    simp only [AV.pure] at hp
    simp only [AV.freeze, mapM_id' (fun x hx => freezeAgg_pure (h := h) (pureL_mem hp x hx)), Option.map_some]
  | _ => exact freezeAgg_pure (h := h) hp

section
variable {P : Program} {w : World} {g : Gh} {h : H}

theorem flatCell_rep {w' : World} {g2 : Gh} {wh wh2 : Wh} {x y : AV} {v : Value} (hr : Rep w g wh x v) (he : x.freezeCell h = some y) (hp : y.flatCell = true) (mv : Moves w g w' g2 wh wh2) : Rep w' g2 wh2 y v := by
  cases hr with
  | slc hlc hac =>
    rename_i id off l s a c
    simp only [AV.freezeCell] at he
    split at he
    · split at he
      · rename_i cells ro hid hle
        cases he
        simp only [AV.flatCell, List.isEmpty_iff] at hp
        have hl : l = 0 := by rw [← (chunks_get s l (cells.drop off)).1, hp]; rfl
        subst hl
        exact .list 0 0 s (fun _ _ => undef) rfl hlc (fun h => absurd rfl h) (by simp [chunks]) (fun i r j cl hi => by simp [chunks] at hi) (fun i r j cl hi => by simp [chunks] at hi) trivial
      · cases he
    · cases he
  | list b off s f hn hc ha hs h1 h2 hroom =>
    cases he
    simp only [AV.flatCell, List.isEmpty_iff] at hp
    subst hp
    exact .list b off s f hn hc (fun h => absurd rfl h) (by simp) (fun i r j cl hi => by simp at hi) (fun i r j cl hi => by simp at hi) (hroom.mono (mv 0 0))
  | bool => cases he; exact .bool
  | int => cases he; exact .int
  | str => cases he; exact .str
  | nilPtr => cases he; exact .nilPtr
  | nilMap => cases he; exact .nilMap
  | nilFunc => cases he; exact .nilFunc
  | nilIface => cases he; exact .nilIface
  | _ => cases he; simp [AV.flatCell] at hp

theorem flat_rep {w' : World} {g2 : Gh} {wh wh2 : Wh} {x y : AV} {v : Value} (hr : Rep w g wh x v) (he : x.freeze h = some y) (hp : y.flat = true) (mv : Moves w g w' g2 wh wh2) : Rep w' g2 wh2 y v := by
  have aggc : ∀ {x y : AV} {v : Value} {wh wh2 : Wh}, Rep w g wh x v → x.freezeAgg h = some y → y.flatCell = true → Moves w g w' g2 wh wh2 → Rep w' g2 wh2 y v := by
    intro x y v wh wh2 hr he hp mv
    cases x with
    | agg cs =>
      simp only [AV.freezeAgg, Option.map_eq_some_iff] at he
      obtain ⟨ys, _, rfl⟩ := he
      simp [AV.flatCell] at hp
    | _ => exact flatCell_rep (h := h) hr he hp mv
  cases x with
  | tuple cs =>
    simp only [AV.freeze, Option.map_eq_some_iff] at he
    obtain ⟨ys, hm, rfl⟩ := he
    obtain ⟨h3, h4⟩ := mapM_get hm
    simp only [AV.flat, List.all_eq_true] at hp
    cases hr with
    | tuple h1 h2 =>
      refine .tuple (by omega) fun j c u hj hu => ?_
      obtain ⟨x, hx, hf⟩ := h4 j c hj
      exact aggc (h2 j x u hx hu) hf (hp c (List.mem_of_getElem? hj)) (fun _ i => mv j i)
  | agg cs =>
    simp only [AV.freeze, AV.freezeAgg, Option.map_eq_some_iff] at he
    obtain ⟨ys, hm, rfl⟩ := he
    obtain ⟨h3, h4⟩ := mapM_get hm
    simp only [AV.flat, List.all_eq_true] at hp
    cases hr with
    | agg h1 h2 =>
      refine .agg (by omega) fun j c u hj hu => ?_
      obtain ⟨x, hx, hf⟩ := h4 j c hj
      exact flatCell_rep (h2 j x u hx hu) hf (hp c (List.mem_of_getElem? hj)) (fun _ _ => mv 0 j)
  | slc id off l s =>
    have he' : (AV.slc id off l s).freezeCell h = some y := he
    have hl : y.flatCell = true := by
      have he2 := he'
      simp only [AV.freezeCell] at he2
      split at he2
      · split at he2
        · cases he2; exact hp
        · cases he2
      · cases he2
    exact flatCell_rep hr he' hl mv
  | _ => cases he; exact flatCell_rep (h := h) hr rfl hp mv

/-! ### sealed off -/
def Gh.closed (g : Gh) (all : Bool) (n : Nat) : Gh := ⟨fun _ => none, fun b k => g.st b k ∨ all = true ∧ b < n, fun _ => False⟩
def isRes : Option Loc → Bool
  | some (.res _ _) => true
  | _ => false
def Gh.unshut (g g' : Gh) (n n' : Nat) : Gh := ⟨fun b => if b < n then g.own b else if isRes (g'.own b) then g'.own b else none, fun b k => if b < n then g.st b k else if isRes (g'.own b) then g'.st b k else b < n', g.rsv⟩

theorem HR.closed (hH : HR w g h) (all : Bool) : HR w (g.closed all w.heap.size) [] :=
  ⟨fun id o hid => (by simp at hid), fun _ _ _ h1 => (by cases h1), fun _ _ h1 => (by cases h1), fun _ _ h1 => (by cases h1), fun b k hk => Or.elim hk (hH.stlt b k) fun h => h.2, fun _ _ h => (by cases h), fun _ h => False.elim h⟩

section
variable {w' : World} {g' : Gh} {h' : H} {all : Bool}

theorem seal_none (ev : Ev w (g.closed all w.heap.size) w' g') {b : Nat} (hb : b < w.heap.size) : g'.own b = none ∧ w'.heap[b]? = w.heap[b]? ∧ ∀ k, g'.st b k → g.st b k ∨ all = true := by
  obtain ⟨h1, h2, h3⟩ := ev.old b hb rfl
  exact ⟨h1, h2, fun k hk => (h3 k hk).imp id fun h => h.1⟩
theorem unshut_ev (hH : HR w g h) (ev : Ev w (g.closed all w.heap.size) w' g') : Ev w g w' (g.unshut g' w.heap.size w'.heap.size) where
  size := ev.size
  st b k hs := by
    have hb := hH.stlt b k hs
    refine ⟨by simp [Gh.unshut, hb, hs], ?_⟩
    simp [World.cell?, (seal_none ev hb).2.1]
  obj b id ho := by
    have hb := hH.lt b _ ho
    simp [Gh.unshut, hb, ho]
  old b hb ho := ⟨by simp [Gh.unshut, hb, ho], (seal_none ev hb).2.1, fun k hk => by simpa [Gh.unshut, hb] using hk⟩
  os := ev.os
  out := ev.out
  rsv _ h := h
theorem unshut_keeps (hH : HR w g h) (ev : Ev w (g.closed all w.heap.size) w' g') (l : Loc) : Keeps w g w' (g.unshut g' w.heap.size w'.heap.size) l l := fun b ho => by
  have hb := hH.lt b _ ho
  exact ⟨by simp [Gh.unshut, hb, ho], (seal_none ev hb).2.1, fun k hk => by simpa [Gh.unshut, hb] using hk⟩
theorem unshut_old {b : Nat} {l : Loc} (hl : ∀ p c, l ≠ .res p c) {n n' : Nat} (h : (g.unshut g' n n').own b = some l) : b < n ∧ g.own b = some l := by
  simp only [Gh.unshut] at h
  split at h
  · exact ⟨by assumption, h⟩
  · split at h
    · rename_i hr
      rw [h] at hr
      cases l <;> simp [isRes] at hr
      exact absurd rfl (hl _ _)
    · cases h
theorem unshut_hr (hH : HR w g h) (hH' : HR w' g' h') (ev : Ev w (g.closed all w.heap.size) w' g') : HR w' (g.unshut g' w.heap.size w'.heap.size) h where
  obj id o hid ht := (hH.obj id o hid (by obtain ⟨b, hb⟩ := ht; exact ⟨b, (unshut_old (by simp) hb).2⟩)).mono (unshut_ev hH ev).mono (fun b hb => (unshut_keeps hH ev _ b hb).2) (fun j => unshut_keeps hH ev _)
  inj b b' id h1 h2 := hH.inj b b' id (unshut_old (by simp) h1).2 (unshut_old (by simp) h2).2
  lt b l h1 := by
    simp only [Gh.unshut] at h1
    split at h1
    · rename_i hb; exact Nat.lt_of_lt_of_le hb ev.size
    · split at h1
      · exact hH'.lt b l h1
      · cases h1
  bd b id h1 := hH.bd b id (unshut_old (by simp) h1).2
  stlt b k hs := by
    simp only [Gh.unshut] at hs
    split at hs
    · rename_i hb; exact Nat.lt_of_lt_of_le hb ev.size
    · split at hs
      · exact hH'.stlt b k hs
      · exact hs
  rsv b id h1 := hH.rsv b id (unshut_old (by simp) h1).2
  rlt := hH.rlt
theorem unshut_moves (ev : Ev w (g.closed all w.heap.size) w' g') (wh : Wh) (hw : ∀ p c l, wh p c = some l → ∃ p c, l = .res p c) : Moves w' g' w' (g.unshut g' w.heap.size w'.heap.size) wh wh := by
  intro p c l hl
  refine ⟨l, hl, fun b hb => ?_⟩
  obtain ⟨p', c', rfl⟩ := hw p c l hl
  have hnb : ¬ b < w.heap.size := fun h => by rw [(seal_none ev h).1] at hb; cases hb
  exact ⟨by simp [Gh.unshut, hnb, hb, isRes], rfl, fun k hk => by simpa [Gh.unshut, hnb, hb, isRes] using hk⟩

theorem unshut_rep (hH : HR w g h) (hH' : HR w' g' h') (ev : Ev w (g.closed all w.heap.size) w' g') {wh : Wh} (hw : ∀ p c l, wh p c = some l → ∃ p c, l = .res p c) {x y : AV} {v : Value} (hr : Rep w' g' wh x v) (he : x.freeze h' = some y) (hp : y.pure = true) (hy : all = false ∨ y.flat = true) :
    Rep w' (g.unshut g' w.heap.size w'.heap.size) wh y v := by
  rcases hy with rfl | hy
  · refine freeze_rep hH' (fun b k hs => ?_) (fun b id ho k => ?_) hr he hp (unshut_moves ev wh hw)
    · simp only [Gh.unshut]
      split
      · rename_i hb
        rcases (seal_none ev hb).2.2 k hs with h | h
        · exact h
        · cases h
      · split
        · exact hs
        · exact hH'.stlt b k hs
    · have hnb : ¬ b < w.heap.size := fun h => by rw [(seal_none ev h).1] at ho; cases ho
      simp only [Gh.unshut, if_neg hnb, ho, isRes]
      exact hH'.lt b _ ho
  · exact flat_rep hr he hy (unshut_moves ev wh hw)
end

theorem seal_args (hH : HR w g h) {args as₁ : List AV} {vals : Array Value} (ha : ArgsRep w g args vals) (hm : args.mapM (AV.freeze h) = some as₁) (hp : pureL as₁ = true) : ArgsRep w (g.closed (!pureL args) w.heap.size) as₁ vals := by
  obtain ⟨h3, h4⟩ := mapM_get hm
  refine ⟨by rw [ha.1, h3], fun j y v hy hv => ?_⟩
  obtain ⟨x, hx, hf⟩ := h4 j y hy
  have hr := ha.2 j x v hx hv
  have hyp := pureL_mem hp y (List.mem_of_getElem? hy)
  cases hpa : pureL args with
  | true =>
    have hxp := pureL_mem hpa x (List.mem_of_getElem? hx)
    rw [freeze_pure hxp] at hf
    cases hf
    exact hr.pureMono (fun b k hs => Or.inl hs) hxp Moves.none
  | false => exact freeze_rep hH (fun b k hs => Or.inl hs) (fun b id ho k => Or.inr ⟨rfl, hH.lt b _ ho⟩) hr hf hyp Moves.none

/-- A call by value alone. -/
theorem pure_post (hH : HR w g h) {args as₁ : List AV} {run : List AV → H → Option (AEnd × H)} (hm : args.mapM (AV.freeze h) = some as₁) (hp : pureL as₁ = true) {r r0 : AEnd × H} (hr0 : run as₁ [] = some r0) (he : pureCall run args h = some r) {e : Ending} {w' : World}
    (hb : BPost w (g.closed (!pureL args) w.heap.size) r0 e w') : CPost w g r e w' := by
  unfold pureCall at he
  simp only [hm, hp, if_true, hr0] at he
  obtain ⟨e0, h0⟩ := r0
  cases e0 with
  | ret v0 =>
    simp only [Option.bind_eq_some_iff] at he
    obtain ⟨y, hy, he⟩ := he
    split at he
    · rename_i hc
      cases he
      simp only [Bool.and_eq_true, Bool.or_eq_true] at hc
      cases e with
      | returned u =>
        obtain ⟨v, g', h1, ev, hH', hr⟩ := hb
        cases h1
        refine ⟨y, g.unshut g' w.heap.size w'.heap.size, rfl, unshut_ev hH ev, unshut_hr hH hH' ev, fun t p c => unshut_keeps hH ev _, unshut_rep hH hH' ev (fun p c l hl => by cases hl; exact ⟨p, c, rfl⟩) hr hy hc.1 (hc.2.imp (fun h => by simp [h]) id)⟩
      | panicked chain => obtain ⟨v, u, g', h1, _⟩ := hb; cases h1
      | outgrown => exact hb.elim
    · cases he
  | pan v0 =>
    simp only [Option.bind_eq_some_iff] at he
    obtain ⟨y, hy, he⟩ := he
    split at he
    · rename_i hc
      cases he
      simp only [Bool.and_eq_true, Bool.or_eq_true] at hc
      cases e with
      | returned u => obtain ⟨v, g', h1, _⟩ := hb; cases h1
      | panicked chain =>
        obtain ⟨v, u, g', h1, h2, ev, hH', hr⟩ := hb
        cases h1
        refine ⟨y, u, g.unshut g' w.heap.size w'.heap.size, rfl, h2, unshut_ev hH ev, unshut_hr hH hH' ev, fun t p c => unshut_keeps hH ev _, unshut_rep hH hH' ev (fun p c l hl => by cases hl) hr hy hc.1 (hc.2.imp (fun h => by simp [h]) id)⟩
      | outgrown => exact hb.elim
    · cases he

theorem freezeAgg_tup {x y : AV} (he : x.freezeAgg h = some y) (hy : y.notTup = true) : x.notTup = true := by
  cases x with
  | tuple vs => cases he; exact hy
  | _ => rfl
theorem freeze_ret {fn : Func} {v y : AV} (he : v.freeze h = some y) (hy : retOk fn (.ret y) = true) : retOk fn (.ret v) = true := by
  cases v with
  | tuple vs =>
    simp only [AV.freeze, Option.map_eq_some_iff] at he
    obtain ⟨ys, hm, rfl⟩ := he
    obtain ⟨h3, h4⟩ := mapM_get hm
    simp only [retOk, Bool.and_eq_true, List.all_eq_true] at hy ⊢
    refine ⟨hy.1, fun x hx => ?_⟩
    obtain ⟨j, hj⟩ := List.getElem?_of_mem hx
    have hjl : j < ys.length := by have := (List.getElem?_eq_some_iff.1 hj).1; omega
    obtain ⟨x', h5, h6⟩ := h4 j ys[j] (by simp [hjl])
    rw [hj] at h5
    cases h5
    exact freezeAgg_tup h6 (hy.2 _ (by simp))
  | _ => rfl

/-- What is asked of a policy. -/
structure PolOk (P : Program) (pol : Pol) : Prop where
  mixed : P.follows .mixedOrders = true
  ext : ∀ f e, pol.ext f = some e → ∀ (args : List AV) (h : H) (r : AEnd × H), e args h = some r → ∀ (vals : Array Value) (w : World) (g : Gh), HR w g h → ArgsRep w g args vals → Callee P f vals w (CPost w g r)

theorem freezeCell_more {h l : H} {x y : AV} (he : x.freezeCell h = some y) : x.freezeCell (h ++ l) = some y := by
  unfold AV.freezeCell at he ⊢
  split at he
  · split at he
    · rename_i hid
      simp only [obj_more hid]
      exact he
    · cases he
  · exact he
theorem mapM_more {f g : AV → Option AV} (hfg : ∀ x y, f x = some y → g x = some y) : ∀ {l m : List AV}, l.mapM f = some m → l.mapM g = some m
  | [], m, h => by simpa using h
  | x :: l, m, h => by
    simp only [List.mapM_cons, Option.pure_def, Option.bind_eq_bind, Option.bind_eq_some_iff] at h ⊢
    obtain ⟨y, h1, ys, h2, h3⟩ := h
    exact ⟨y, hfg _ _ h1, ys, mapM_more hfg h2, h3⟩
theorem freezeAgg_not {h : H} {x : AV} (hx : ¬ ∃ cs, x = .agg cs) : x.freezeAgg h = x.freezeCell h := by
  cases x <;> first | rfl | exact absurd ⟨_, rfl⟩ hx
theorem freezeAgg_more {h l : H} {x y : AV} (he : x.freezeAgg h = some y) : x.freezeAgg (h ++ l) = some y := by
  by_cases hx : ∃ cs, x = .agg cs
  · obtain ⟨cs, rfl⟩ := hx
    simp only [AV.freezeAgg, Option.map_eq_some_iff] at he ⊢
    obtain ⟨m, h1, h2⟩ := he
    exact ⟨m, mapM_more (fun _ _ => freezeCell_more) h1, h2⟩
  · rw [freezeAgg_not hx] at he ⊢
    exact freezeCell_more he
theorem freeze_not {h : H} {x : AV} (hx : ¬ ∃ cs, x = .tuple cs) : x.freeze h = x.freezeAgg h := by
  cases x <;> first | rfl | exact absurd ⟨_, rfl⟩ hx
theorem freeze_more {h l : H} {x y : AV} (he : x.freeze h = some y) : x.freeze (h ++ l) = some y := by
  by_cases hx : ∃ cs, x = .tuple cs
  · obtain ⟨cs, rfl⟩ := hx
    simp only [AV.freeze, Option.map_eq_some_iff] at he ⊢
    obtain ⟨m, h1, h2⟩ := he
    exact ⟨m, mapM_more (fun _ _ => freezeAgg_more) h1, h2⟩
  · rw [freeze_not hx] at he ⊢
    exact freezeAgg_more he

theorem pureCall_still {run : List AV → H → Option (AEnd × H)} {args : List AV} {h h' : H} {e : AEnd} (he : pureCall run args h = some (e, h')) : h' = h ∧ ∀ l, pureCall run args (h ++ l) = some (e, h ++ l) := by
  unfold pureCall at *
  split at he
  · cases he
  · rename_i as₁ hm
    have hm' : ∀ l, args.mapM (AV.freeze (h ++ l)) = some as₁ := fun l => mapM_more (fun _ _ => freeze_more) hm
    split at he
    · rename_i hp
      simp only [hm', if_pos hp]
      split at he
      · simp only [Option.bind_eq_some_iff] at he ⊢
        obtain ⟨w, h1, h2⟩ := he
        split at h2
        · rename_i hc
          cases h2
          exact ⟨rfl, fun l => ⟨w, h1, by rw [if_pos hc]⟩⟩
        · cases h2
      · simp only [Option.bind_eq_some_iff] at he ⊢
        obtain ⟨w, h1, h2⟩ := he
        split at h2
        · rename_i hc
          cases h2
          exact ⟨rfl, fun l => ⟨w, h1, by rw [if_pos hc]⟩⟩
        · cases h2
      · cases he
    · cases he

theorem acall_still {pol : Pol} {f : FuncId} (hf : pol.still f = true) : ∀ n, Still (acall P pol n) f
  | 0, args, h, e, h', he => by simp [acall] at he
  | n + 1, args, h, e, h', he => by
    simp only [Pol.still, Bool.and_eq_true, Option.isNone_iff_eq_none] at hf
    have hm : pol.mode f = 0 := Nat.eq_of_beq_eq_true hf.2
    unfold acall at he ⊢
    rw [hf.1] at he ⊢
    simp only at he ⊢
    split at he
    · cases he
    · rename_i fn hfn
      split at he
      · cases he
      · rename_i c hb
        split at he
        · rename_i hok
          simp only [if_pos hok]
          simp only [hm, if_true] at he ⊢
          unfold retChk at he ⊢
          split at he
          · rename_i r' hr'
            split at he
            · rename_i hro
              cases he
              obtain ⟨e1, e2⟩ := pureCall_still hr'
              refine ⟨e1, fun l => ?_⟩
              rw [e2 l]
              simp only
              rw [if_pos hro]
            · cases he
          · cases he
        · cases he

theorem acall_sound {pol : Pol} (hpol : PolOk P pol) : ∀ n, CallOk P (acall P pol n)
  | 0, f, args, h, r, he, _, _, _, _, _ => by simp [acall] at he
  | n + 1, f, args, h, r, he, vals, w, g, hH, ha => by
    unfold acall at he
    cases hx : pol.ext f with
    | some e => rw [hx] at he; exact hpol.ext f e hx args h r he vals w g hH ha
    | none =>
      rw [hx] at he
      simp only at he
      split at he
      · cases he
      · rename_i fn hf
        split at he
        · cases he
        · rename_i c hb
          split at he
          · rename_i hok
            simp only [Bool.and_eq_true, List.all_eq_true] at hok
            obtain ⟨hok, hqs⟩ := hok
            have hle := Nat.le_of_ble_eq_true hok.2
            refine .inl ⟨callFunc_enter hf hb hok.1 vals, ?_⟩
            unfold retChk at he
            split at he
            · rename_i r' hr'
              split at he
              · rename_i hro
                cases he
                split at hr'
                · -- by value alone
                  have hpc := hr'
                  unfold pureCall at hr'
                  split at hr'
                  · cases hr'
                  · rename_i as₁ hm
                    split at hr'
                    · rename_i hp
                      have hlen : as₁.length = args.length := (mapM_get hm).1
                      cases hrun : body P (pol.ann f).1 (acall P pol n) fn (pol.ann f).2 n c as₁ [] with
                      | none => rw [hrun] at hr'; cases hr'
                      | some r0 =>
                        have hro0 : retOk fn r0.1 = true := by
                          rw [hrun] at hr'
                          obtain ⟨e0, h0⟩ := r0
                          cases e0 with
                          | ret v0 =>
                            simp only [Option.bind_eq_some_iff] at hr'
                            obtain ⟨y, hy, hr'⟩ := hr'
                            split at hr'
                            · cases hr'; exact freeze_ret hy hro
                            · cases hr'
                          | pan v0 => rfl
                        have := body_sound (acall_sound hpol n) hf hb hpol.mixed (fun g hg => acall_still (hqs g hg) n) hok.1 (by omega) hro0 hrun (hH.closed (!pureL args)) (seal_args hH ha hm hp)
                        exact this.mono fun e w' hp' => pure_post hH hm hp hrun hpc hp'
                    · cases hr'
                · have := body_sound (acall_sound hpol n) hf hb hpol.mixed (fun g hg => acall_still (hqs g hg) n) hok.1 hle hro hr' hH.strip ha.strip
                  exact this.mono fun e w' hp' => hp'.toCPost hH
              · cases he
            · cases he
          · cases he
end
end Go.Ve
