/- VE: what a function means, with no measure of fuel. -/
import Derived.Test.YtdlnkfghgbddhaaGreatVa4
import Derived.ChangeArms
import Derived.OpenShut
import Derived.Below
import Derived.ChangeOld
import Derived.DataElems
import Derived.ProofKit
import Derived.SizedLaws
import Derived.Carry
import Derived.Shelf.Spec.SlicesGrow
import Derived.Lib.Bytealg
import Derived.Laws.Externs
import Derived.ChangeShapes
import Derived.RowKit
set_option linter.all false

namespace Go.Ve
open Go

/-- From some number on. -/
def Late (p : Nat → Prop) : Prop := ∃ N, ∀ m, N ≤ m → p m
theorem Late.and {p q : Nat → Prop} (h1 : Late p) (h2 : Late q) : Late fun m => p m ∧ q m := by
  obtain ⟨N, h1⟩ := h1
  obtain ⟨M, h2⟩ := h2
  exact ⟨max N M, fun m hm => ⟨h1 m (by omega), h2 m (by omega)⟩⟩
theorem Late.imp {p q : Nat → Prop} (h1 : Late p) (h : ∀ m, p m → q m) : Late q := by
  obtain ⟨N, h1⟩ := h1
  exact ⟨N, fun m hm => h m (h1 m hm)⟩
theorem Late.of {p : Nat → Prop} (h : ∀ m, p m) : Late p := ⟨0, fun m _ => h m⟩

structure KC {R : Type} (k : K R) (C : Nat → K R) (res : R) : Prop where
  normal : ∀ s, k.normal s = some res → Late fun m => (C m).normal s = some res
  exit : ∀ i s, k.exit i s = some res → Late fun m => (C m).exit i s = some res
  ret : ∀ s, k.ret s = some res → Late fun m => (C m).ret s = some res
  pan : ∀ v s, k.pan v s = some res → Late fun m => (C m).pan v s = some res

def CC (call : Cl) (C : Nat → Cl) : Prop := ∀ f args h r, call f args h = some r → Late fun m => C m f args h = some r

theorem bind_late {α R : Type} {x : Option α} {f : α → Option R} {g : Nat → α → Option R} {res : R} (h : x.bind f = some res) (hf : ∀ a, f a = some res → Late fun m => g m a = some res) : Late fun m => x.bind (g m) = some res := by
  cases x with
  | none => cases h
  | some a => exact hf a h

section
variable {P : Program} {R : Type}

theorem bindA_late {α : Type} {x : Option α} {f : α → Option R} {g : Nat → α → Option R} {res : R} (h : bindA x f = some res) (hf : ∀ a, f a = some res → Late fun m => g m a = some res) : Late fun m => bindA x (g m) = some res := by
  cases x with
  | none => cases h
  | some a => exact hf a h
theorem withV_late {g : Bool} {v : AV} {k : AV → Option R} {ks : Nat → AV → Option R} {res : R} (h : withV g v k = some res) (hk : ∀ v, k v = some res → Late fun m => ks m v = some res) : Late fun m => withV g v (ks m) = some res := by
  unfold withV at h ⊢
  cases g with
  | false => exact hk _ h
  | true =>
    simp only [cond_true] at h ⊢
    unfold condA at h ⊢
    split at h
    · rename_i t
      cases t with
      | true => exact hk _ h
      | false => exact hk _ h
    · cases h
theorem gateK_late {all : List Oper} {fr : List (Nat × AV)} {o : Oper} {x y : Option R} {xs ys : Nat → Option R} {res : R} (h : gateK all fr o x y = some res) (hx : x = some res → Late fun m => xs m = some res) (hy : y = some res → Late fun m => ys m = some res) : Late fun m => gateK all fr o (xs m) (ys m) = some res := by
  unfold gateK at h ⊢
  split at h
  · exact hx h
  · split at h
    · unfold gate at h ⊢
      split at h
      · split at h
        · rename_i hb
          exact (hx h).imp fun m hm => by rw [if_pos hb]; exact hm
        · rename_i hb
          exact (hy h).imp fun m hm => by rw [if_neg hb]; exact hm
      · exact hy h
      · cases h
    · cases h
theorem callVal_late {call : Cl} {C : Nat → Cl} (hc : CC call C) {h : H} {f : AV} {args : List AV} {p : AEnd × H} (hz : callVal call h f args = some p) : Late fun m => callVal (C m) h f args = some p := by
  unfold callVal at hz ⊢
  split at hz
  · exact hc _ _ _ _ hz
  · cases hz

theorem regionC_late {call : Cl} {C : Nat → Cl} (hc : CC call C) {A : FAnn} {r : Nat} {all : List Oper} {k : K R} {Ks : Nat → K R} {res : R} (hk : KC k Ks res) : ∀ (l : List (Nat × Oper)) (fr : List (Nat × AV)) (ob : List (Nat × Nat)) (ds : List ADef) (h : H),
    regionC P A call r all k l fr ob ds h = some res → Late fun m => regionC P A (C m) r all (Ks m) l fr ob ds h = some res
  | [], fr, ob, ds, h, he => hk.normal _ he
  | (i, o) :: l, fr, ob, ds, h, he => by
    have ih := regionC_late hc (A := A) (r := r) (all := all) hk l
    unfold regionC at he ⊢
    split at he
    · simp only [strict_eq] at he ⊢
      exact gateK_late he (fun hx => bindA_late hx fun v hv => withV_late hv fun v hv => ih _ _ _ _ hv) (fun hy => ih _ _ _ _ hy)
    · simp only [strict_eq] at he ⊢
      exact gateK_late he (fun hx => bindA_late hx fun v hv => ih _ _ _ _ hv) (fun hy => ih _ _ _ _ hy)
    · simp only [strict_eq] at he ⊢
      exact gateK_late he (fun hx => bindA_late hx fun v hv => withV_late hv fun v hv => ih _ _ _ _ hv) (fun hy => ih _ _ _ _ hy)
    · simp only [strict_eq] at he ⊢
      exact gateK_late he (fun hx => bindA_late hx fun v hv => withV_late hv fun v hv => ih _ _ _ _ hv) (fun hy => ih _ _ _ _ hy)
    · refine gateK_late he (fun hx => ?_) (fun hy => ih _ _ _ _ hy)
      rw [bindA_eq] at hx
      simp only [Option.bind_eq_some_iff] at hx
      obtain ⟨⟨e, h'⟩, hp, hx⟩ := hx
      cases e with
      | ret v =>
        simp only [retOr] at hx
        have h2 : Late fun m => withV (isG all i) v (fun v => regionC P A (C m) r all (Ks m) l (putV A.nt o.dst v fr) (putM o.dst full ob) ds h') = some res := withV_late hx fun v hv => ih _ _ _ _ hv
        exact ((callVal_late hc hp).and h2).imp fun m hm => by rw [hm.1]; exact hm.2
      | pan v =>
        have h2 : Late fun m => (Ks m).pan v ⟨fr, ob, ds, h'⟩ = some res := hk.pan _ _ hx
        exact ((callVal_late hc hp).and h2).imp fun m hm => by rw [hm.1]; exact hm.2
    · rename_i x hkk
      cases hg : o.guard.isNone with
      | false => rw [hg] at he; cases he
      | true =>
        rw [hg] at he
        simp only [cond_true] at he ⊢
        unfold panOr at he ⊢
        split at he
        · exact hk.pan _ _ he
        · cases he
    · rename_i f args hkk
      cases hg : o.guard.isNone with
      | false => rw [hg] at he; cases he
      | true =>
        rw [hg] at he
        simp only [cond_true] at he ⊢
        exact bindA_late he fun d hd => ih _ _ _ _ hd

theorem whenB_late {p : Bool} {ps : Nat → Bool} {k : Option R} {ks : Nat → Option R} {res : R} (h : whenB p k = some res) (hp : p = true → Late fun m => ps m = true) (hk : k = some res → Late fun m => ks m = some res) : Late fun m => whenB (ps m) (ks m) = some res := by
  obtain ⟨h1, h2⟩ := whenB_some h
  exact ((hp h1).and (hk h2)).imp fun m hm => by rw [hm.1]; exact hm.2
theorem chkBack_late {b : Nat} {p : H → Bool} {ps : Nat → H → Bool} (hp : ∀ h, p h = true → Late fun m => ps m h = true) {res : R} : ∀ {l : List (Nat × H)} {k : Option R} {ks : Nat → Option R}, chkBack b p l k = some res → (k = some res → Late fun m => ks m = some res) → Late fun m => chkBack b (ps m) l (ks m) = some res
  | [], k, ks, h, hk => hk h
  | x :: l, k, ks, h, hk => by
    unfold chkBack at h ⊢
    cases hb : b.testBit x.1 with
    | true => rw [hb] at h; simp only [cond_true] at h ⊢; exact chkBack_late hp h hk
    | false => rw [hb] at h; simp only [cond_false] at h ⊢; exact whenB_late h (hp _) fun h => chkBack_late hp h hk
/-- Looks, some time on. -/
inductive PR : List (Nat × (H → Bool)) → (Nat → List (Nat × (H → Bool))) → Prop
  | nil : PR [] fun _ => []
  | cons {i : Nat} {p : H → Bool} {ps : Nat → H → Bool} {l : List (Nat × (H → Bool))} {ls : Nat → List (Nat × (H → Bool))} (hp : ∀ h, p h = true → Late fun m => ps m h = true) (hl : PR l ls) : PR ((i, p) :: l) fun m => (i, ps m) :: ls m
theorem chkFwd_late {b : Nat} {h' : H} {res : R} {l : List (Nat × (H → Bool))} {ls : Nat → List (Nat × (H → Bool))} (hl : PR l ls) {k : Option R} {ks : Nat → Option R} (hk : k = some res → Late fun m => ks m = some res) : chkFwd b h' l k = some res → Late fun m => chkFwd b h' (ls m) (ks m) = some res := by
  induction hl with
  | nil => exact hk
  | cons hp hl ih =>
    intro h
    rename_i i p ps l ls
    unfold chkFwd at h
    cases hb : b.testBit i with
    | true =>
      rw [hb] at h
      refine (ih h).imp fun m hm => ?_
      unfold chkFwd
      simp only [hb, cond_true]
      exact hm
    | false =>
      rw [hb] at h
      refine (whenB_late h (hp _) ih).imp fun m hm => ?_
      unfold chkFwd
      simp only [hb, cond_false]
      exact hm

theorem regionQC_late {call : Cl} {C : Nat → Cl} (hc : CC call C) {A : FAnn} {r : Nat} {all : List Oper} {bs : List Nat} {k : List (Nat × AV) → List (Nat × Nat) → H → Option R} {Ks : Nat → List (Nat × AV) → List (Nat × Nat) → H → Option R} {res : R} (hk : ∀ fr ob h, k fr ob h = some res → Late fun m => Ks m fr ob h = some res) : ∀ (l : List (Nat × Oper)) (pr : List (Nat × (H → Bool))) (prs : Nat → List (Nat × (H → Bool))) (pw : List (Nat × H)) (fr : List (Nat × AV)) (ob : List (Nat × Nat)) (h : H), PR pr prs →
    regionQC P A call r all bs k l pr pw fr ob h = some res → Late fun m => regionQC P A (C m) r all bs (Ks m) l (prs m) pw fr ob h = some res
  | [], pr, prs, pw, fr, ob, h, hp, he => hk _ _ _ he
  | (i, o) :: l, pr, prs, pw, fr, ob, h, hp, he => by
    have ih := regionQC_late hc (A := A) (r := r) (all := all) (bs := bs) hk l
    unfold regionQC at he ⊢
    cases hkk : kindOf A r i o.op with
    | tot =>
      rw [hkk] at he
      simp only [strict_eq] at he ⊢
      exact gateK_late he (fun hx => bindA_late hx fun v hv => withV_late hv fun v hv => ih _ _ _ _ _ _ hp hv) (fun hy => ih _ _ _ _ _ _ hp hy)
    | new =>
      rw [hkk] at he
      simp only [strict_eq] at he ⊢
      exact gateK_late he (fun hx => bindA_late hx fun v hv => ih _ _ _ _ _ _ hp hv) (fun hy => ih _ _ _ _ _ _ hp hy)
    | val =>
      rw [hkk] at he
      simp only [strict_eq] at he ⊢
      refine gateK_late he (fun hx => bindA_late hx fun v hv => ?_) (fun hy => ih _ _ _ _ _ _ hp hy)
      cases hb : Nat.beq (clsOf A r i o.op) 1 with
      | true =>
        rw [hb] at hv
        exact chkBack_late (ps := fun _ => rdVal P A r i o fr ob v) (fun _ h => .of fun _ => h) hv fun hv => withV_late hv fun v' hv => ih _ _ _ _ _ _ (.cons (ps := fun _ => rdVal P A r i o fr ob v') (fun _ h => .of fun _ => h) hp) hv
      | false =>
        rw [hb] at hv
        dsimp only [pickJ] at hv ⊢
        exact withV_late hv fun v hv => ih _ _ _ _ _ _ hp hv
    | heap =>
      rw [hkk] at he
      simp only [strict_eq] at he ⊢
      exact gateK_late he (fun hx => bindA_late hx fun p hv => chkFwd_late hp (fun hv => withV_late hv fun v hv => ih _ _ _ _ _ _ hp hv) hv) (fun hy => ih _ _ _ _ _ _ hp hy)
    | call f args =>
      rw [hkk] at he
      simp only [strict_eq] at he ⊢
      refine gateK_late he (fun hx => ?_) (fun hy => ih _ _ _ _ _ _ hp hy)
      rw [bindA_eq] at hx
      simp only [Option.bind_eq_some_iff] at hx
      obtain ⟨⟨e, h'⟩, hpp, hx⟩ := hx
      cases e with
      | pan v => cases hx
      | ret v =>
        simp only [retOr] at hx
        have rd : ∀ v h2, rdCall A call f args fr v h2 = true → Late fun m => rdCall A (C m) f args fr v h2 = true := fun v h2 hr => by
          unfold rdCall eqE at hr ⊢
          split at hr
          · rename_i x w h3 hx3
            exact (callVal_late hc hx3).imp fun m hm => by rw [hm]; exact hr
          · cases hr
        have h2 : Late fun m => pickJ (Nat.beq (clsOf A r i o.op) 1)
            (chkBack (befAt bs i) (rdCall A (C m) f args fr v) pw (withV (isG all i) v fun v' => regionQC P A (C m) r all bs (Ks m) l ((i, rdCall A (C m) f args fr v') :: prs m) pw (putV A.nt o.dst v' fr) (putM o.dst (maskQ P A r i ob o) (offQ A r i ob o.op)) h'))
            (chkFwd (befAt bs i) h' (prs m) (withV (isG all i) v fun v' => regionQC P A (C m) r all bs (Ks m) l (prs m) ((i, h) :: pw) (putV A.nt o.dst v' fr) (putM o.dst (maskQ P A r i ob o) (offQ A r i ob o.op)) h')) = some res := by
          cases hb : Nat.beq (clsOf A r i o.op) 1 with
          | true =>
            rw [hb] at hx
            exact chkBack_late (rd v) hx fun hv => withV_late hv fun v' hv => ih _ _ _ _ _ _ (.cons (rd v') hp) hv
          | false =>
            rw [hb] at hx
            exact chkFwd_late hp (fun hv => withV_late hv fun v' hv => ih _ _ _ _ _ _ hp hv) hx
        exact ((callVal_late hc hpp).and h2).imp fun m hm => by rw [hm.1]; exact hm.2
    | pan x => rw [hkk] at he; cases he
    | dfr f args => rw [hkk] at he; cases he

end
end Go.Ve

/- VE: what a function means: code. -/
namespace Go.Ve
open Go

section
variable {P : Program} {R : Type}

theorem exec_late {call : Cl} {C : Nat → Cl} (hc : CC call C) {A : FAnn} {n : Nat} {res : R} : ∀ (c : Code) (an : Ann) (k : K R) (Ks : Nat → K R) (s : St), KC k Ks res → exec P A call n c an k s = some res → Late fun m => exec P A (C m) m c an (Ks m) s = some res := by
  intro c
  induction c with
  | skip => intro an k Ks s hk he; exact hk.normal _ he
  | label l => intro an k Ks s hk he; exact hk.normal _ he
  | exit id => intro an k Ks s hk he; exact hk.exit _ _ he
  | ret => intro an k Ks s hk he; exact hk.ret _ he
  | goto l => intro an k Ks s hk he; simp [exec, execG] at he
  | refuse l => intro an k Ks s hk he; simp [exec, execG] at he
  | rangeFunc f ps x y => intro an k Ks s hk he; simp [exec, execG] at he
  | region r ops draw =>
    intro an k Ks s hk he
    cases draw with
    | false => simp only [exec, execG, rgOf, rqOf] at he ⊢; exact regionC_late hc hk _ _ _ _ _ he
    | true =>
      simp only [exec, execG, rgOf, rqOf] at he ⊢
      cases hck : drawChk P (A.quiet s.h.length) r ops.toList s.ob with
      | false => rw [hck] at he; simp at he
      | true =>
        rw [hck] at he
        simp only [cond_true] at he ⊢
        exact regionQC_late hc (fun fr ob h hh => hk.normal _ hh) _ _ _ _ _ _ _ .nil he
  | seq x y ihx ihy =>
    intro an k Ks s hk he
    simp only [exec, execG, rgOf, rqOf] at he ⊢
    exact ihx _ { k with normal := fun s' => exec P A call n y an.b k (an.b.enter s') } (fun m => { Ks m with normal := fun s' => exec P A (C m) m y an.b (Ks m) (an.b.enter s') }) _ ⟨fun s h => ihy _ _ _ _ hk h, hk.exit, hk.ret, hk.pan⟩ he
  | cond c x y ihx ihy =>
    intro an k Ks s hk he
    simp only [exec, execG, rgOf, rqOf] at he ⊢
    unfold condA at he ⊢
    split at he
    · rename_i t ht
      cases t with
      | true => simp only [if_true] at he ⊢; exact ihx _ _ _ _ hk he
      | false => simp only [Bool.false_eq_true, if_false] at he ⊢; exact ihy _ _ _ _ hk he
    · cases he
  | block id c ih =>
    intro an k Ks s hk he
    simp only [exec, execG, rgOf, rqOf] at he ⊢
    refine ih _ { k with exit := fun j s' => bif j == id then k.normal s' else k.exit j s' } (fun m => { Ks m with exit := fun j s' => bif j == id then (Ks m).normal s' else (Ks m).exit j s' }) _ ⟨hk.normal, fun j s h => ?_, hk.ret, hk.pan⟩ he
    simp only at h ⊢
    cases hj : j == id with
    | true => rw [hj] at h; exact hk.normal _ h
    | false => rw [hj] at h; exact hk.exit _ _ h
  | scope c ih => intro an k Ks s hk he; simp only [exec, execG, rgOf, rqOf] at he ⊢; exact ih _ _ _ _ hk he
  | loop c ih =>
    intro an k Ks s hk he
    simp only [exec, execG, rgOf, rqOf] at he ⊢
    have key : ∀ (j : Nat) (s : St), loopN (fun again s' => exec P A call n c an.a { k with normal := fun s'' => again (an.a.enter s'') } s') j s = some res →
        ∀ f : Nat → Nat, (∀ b, Late fun m => b ≤ f m) → Late fun m => loopN (fun again s' => exec P A (C m) m c an.a { Ks m with normal := fun s'' => again (an.a.enter s'') } s') (f m) s = some res := by
      intro j
      induction j with
      | zero => intro s h; simp [loopN] at h
      | succ j ihj =>
        intro s h f hf
        simp only [loopN] at h
        have h1 := ih an.a { k with normal := fun s'' => loopN (fun again s' => exec P A call n c an.a { k with normal := fun s'' => again (an.a.enter s'') } s') j (an.a.enter s'') } (fun m => { Ks m with normal := fun s'' => loopN (fun again s' => exec P A (C m) m c an.a { Ks m with normal := fun s'' => again (an.a.enter s'') } s') (f m - 1) (an.a.enter s'') }) s
          ⟨fun s h => ihj _ h (fun m => f m - 1) (fun b => (hf (b + 1)).imp fun m hm => by omega), hk.exit, hk.ret, hk.pan⟩ h
        refine (h1.and (hf 1)).imp fun m hm => ?_
        obtain ⟨q, hq⟩ : ∃ q, f m = q + 1 := ⟨f m - 1, by omega⟩
        have h2 := hm.1
        rw [hq] at h2 ⊢
        simp only [loopN]
        exact h2
    exact key n _ he (fun m => m) (fun b => ⟨b, fun m hm => hm⟩)

theorem execD_late {call : Cl} {C : Nat → Cl} (hc : CC call C) {A : FAnn} {n : Nat} {res : R} {v : AV} : ∀ (c : Code) (an : Ann) (k : K R) (Ks : Nat → K R) (s : St), KC k Ks res → execD P A call n c an k v s = some res → Late fun m => execD P A (C m) m c an (Ks m) v s = some res := by
  intro c
  induction c with
  | region r ops draw =>
    intro an k Ks s hk he
    cases draw with
    | true => simp [execD] at he
    | false =>
      simp only [execD, regionD] at he ⊢
      cases hops : ops.toList with
      | nil => rw [hops] at he; cases he
      | cons o rest =>
        rw [hops] at he
        simp only at he ⊢
        cases hr : isRecover o with
        | false => rw [hr] at he; cases he
        | true =>
          rw [hr] at he
          simp only [cond_true] at he ⊢
          exact regionC_late hc hk _ _ _ _ _ he
  | seq x y ihx ihy =>
    intro an k Ks s hk he
    simp only [execD] at he ⊢
    exact ihx _ { k with normal := fun s' => exec P A call n y an.b k (an.b.enter s') } (fun m => { Ks m with normal := fun s' => exec P A (C m) m y an.b (Ks m) (an.b.enter s') }) _ ⟨fun s h => exec_late hc y _ _ _ _ hk h, hk.exit, hk.ret, hk.pan⟩ he
  | _ => intro an k Ks s hk he; simp [execD] at he

theorem dcall_eq {call : Cl} {A : FAnn} {n : Nat} {f : FuncId} {d : DAnn} {fn : Func} {c : Code} (hd : lookN f A.df = some d) (hf : P.funcs[f]? = some fn) (hb : fn.body = some c) {args : List AV} (hok : (resOk fn && Nat.ble args.length fn.ntmps && Nat.beq fn.results.size 0) = true) {h : H} {v : AV} :
    dcall P A call n f args h v = execD P { d.toF with nt := fn.ntmps } call n c d.an kDef v (d.an.enter ⟨argFr 0 args, [], [], h⟩) := by
  unfold dcall
  rw [hd, hf]
  simp only
  rw [hb]
  simp only
  rw [if_pos hok]
theorem dcall_late {call : Cl} {C : Nat → Cl} (hc : CC call C) {A : FAnn} {n : Nat} {f : FuncId} {args : List AV} {h h' : H} {v : AV} (he : dcall P A call n f args h v = some h') : Late fun m => dcall P A (C m) m f args h v = some h' := by
  have hx := he
  unfold dcall at hx
  split at hx
  · rename_i d fn hd hf
    split at hx
    · rename_i c hb
      split at hx
      · rename_i hok
        refine (execD_late hc c _ _ (fun _ => kDef) _ ⟨fun _ h => .of fun _ => h, fun _ _ h => .of fun _ => h, fun _ h => .of fun _ => h, fun _ _ h => .of fun _ => h⟩ hx).imp fun m hm => ?_
        rw [dcall_eq hd hf hb hok]
        exact hm
      · cases hx
    · cases hx
  · cases hx

theorem leaveA_late {dc : FuncId → List AV → H → AV → Option H} {dcs : Nat → FuncId → List AV → H → AV → Option H} (hdc : ∀ f args h v h', dc f args h v = some h' → Late fun m => dcs m f args h v = some h') {fn : Func} {fr : List (Nat × AV)} {ob : List (Nat × Nat)} {r : AEnd × H} :
    ∀ (ds : List ADef) (m : Option AV) (h : H), leaveA P dc fn ds m fr ob h = some r → Late fun k => leaveA P (dcs k) fn ds m fr ob h = some r
  | [], none, h, he => .of fun _ => he
  | [], some v, h, he => .of fun _ => he
  | d :: ds, none, h, he => by
    simp only [leaveA, Option.bind_eq_some_iff] at he
    obtain ⟨h', h1, h2⟩ := he
    exact ((hdc _ _ _ _ _ h1).and (leaveA_late hdc ds none h' h2)).imp fun k hk => by simp only [leaveA, hk.1, Option.bind_some]; exact hk.2
  | d :: ds, some v, h, he => by
    simp only [leaveA, Option.bind_eq_some_iff] at he
    obtain ⟨h', h1, h2⟩ := he
    exact ((hdc _ _ _ _ _ h1).and (leaveA_late hdc ds none h' h2)).imp fun k hk => by simp only [leaveA, hk.1, Option.bind_some]; exact hk.2

theorem body_late {call : Cl} {C : Nat → Cl} (hc : CC call C) {A : FAnn} {fn : Func} {an : Ann} {n : Nat} {c : Code} {args : List AV} {h : H} {r : AEnd × H} (he : body P A call fn an n c args h = some r) : Late fun m => body P A (C m) fn an m c args h = some r :=
  exec_late hc c an _ (fun m => kTop P A (C m) m fn) _ ⟨fun _ h => leaveA_late (fun _ _ _ _ _ hd => dcall_late hc hd) _ _ _ h, fun _ _ h => .of fun _ => h, fun _ h => leaveA_late (fun _ _ _ _ _ hd => dcall_late hc hd) _ _ _ h, fun _ _ h => leaveA_late (fun _ _ _ _ _ hd => dcall_late hc hd) _ _ _ h⟩ he

/-- What a function comes to. -/
def Den (P : Program) (pol : Pol) (f : FuncId) (args : List AV) (h : H) (r : AEnd × H) : Prop := Late fun n => acall P pol n f args h = some r

theorem Den.uniq {pol : Pol} {f : FuncId} {args : List AV} {h : H} {r r' : AEnd × H} (h1 : Den P pol f args h r) (h2 : Den P pol f args h r') : r = r' := by
  obtain ⟨N, hN⟩ := h1.and h2
  obtain ⟨a, b⟩ := hN N (Nat.le_refl _)
  rw [a] at b
  cases b; rfl

open Classical in
/-- The same, as a function. -/
noncomputable def den (P : Program) (pol : Pol) : Cl := fun f args h => if hx : ∃ r, Den P pol f args h r then some hx.choose else none

theorem den_iff {pol : Pol} {f : FuncId} {args : List AV} {h : H} {r : AEnd × H} : den P pol f args h = some r ↔ Den P pol f args h r := by
  unfold den
  constructor
  · intro hd
    split at hd
    · rename_i hx; cases hd; exact hx.choose_spec
    · cases hd
  · intro hd
    have hx : ∃ r, Den P pol f args h r := ⟨r, hd⟩
    rw [dif_pos hx]
    rw [hx.choose_spec.uniq hd]

theorem den_cc (pol : Pol) : CC (den P pol) (acall P pol) := fun _ _ _ _ h => den_iff.1 h

/-- A function's body says what it comes to: in a heap of its own. -/
theorem den_pure {pol : Pol} {f : FuncId} {fn : Func} {c : Code} (hx : pol.ext f = none) (hf : P.funcs[f]? = some fn) (hb : fn.body = some c) (hm : pol.mode f = 0) {args : List AV} {h : H} (hok : (resOk fn && Nat.ble args.length fn.ntmps && (pol.ann f).1.q.all pol.still) = true) (n : Nat) {r : AEnd × H}
    (he : retChk fn (pureCall (body P (pol.ann f).1 (den P pol) fn (pol.ann f).2 n c) args h) = some r) : den P pol f args h = some r := by
  refine den_iff.2 ?_
  have key : Late fun m => retChk fn (pureCall (body P (pol.ann f).1 (acall P pol m) fn (pol.ann f).2 m c) args h) = some r := by
    unfold retChk pureCall at he ⊢
    cases hmm : args.mapM (AV.freeze h) with
    | none => rw [hmm] at he; simp at he
    | some as₁ =>
      rw [hmm] at he
      simp only at he ⊢
      cases hp : pureL as₁ with
      | false => rw [hp] at he; simp at he
      | true =>
        rw [hp] at he
        simp only [if_true] at he ⊢
        cases hbd : body P (pol.ann f).1 (den P pol) fn (pol.ann f).2 n c as₁ [] with
        | none => rw [hbd] at he; simp at he
        | some r0 =>
          rw [hbd] at he
          exact (body_late (den_cc pol) hbd).imp fun m hm => by rw [hm]; exact he
  obtain ⟨N, hN⟩ := key
  refine ⟨N + 1, fun m hm' => ?_⟩
  obtain ⟨q, rfl⟩ : ∃ q, m = q + 1 := ⟨m - 1, by omega⟩
  unfold acall
  simp only [hx, hf, hb, hok, if_true, hm]
  exact hN q (by omega)

/-- The same: in the caller's heap. -/
theorem den_here {pol : Pol} {f : FuncId} {fn : Func} {c : Code} (hx : pol.ext f = none) (hf : P.funcs[f]? = some fn) (hb : fn.body = some c) (hm : pol.mode f ≠ 0) {args : List AV} {h : H} (hok : (resOk fn && Nat.ble args.length fn.ntmps && (pol.ann f).1.q.all pol.still) = true) (n : Nat) {r : AEnd × H}
    (he : retChk fn (body P (pol.ann f).1 (den P pol) fn (pol.ann f).2 n c args h) = some r) : den P pol f args h = some r := by
  refine den_iff.2 ?_
  have key : Late fun m => retChk fn (body P (pol.ann f).1 (acall P pol m) fn (pol.ann f).2 m c args h) = some r := by
    unfold retChk at he ⊢
    cases hbd : body P (pol.ann f).1 (den P pol) fn (pol.ann f).2 n c args h with
    | none => rw [hbd] at he; simp at he
    | some r0 =>
      rw [hbd] at he
      exact (body_late (den_cc pol) hbd).imp fun m hm => by rw [hm]; exact he
  obtain ⟨N, hN⟩ := key
  refine ⟨N + 1, fun m hm' => ?_⟩
  obtain ⟨q, rfl⟩ : ∃ q, m = q + 1 := ⟨m - 1, by omega⟩
  unfold acall
  simp only [hx, hf, hb, hok, if_true, hm, if_false]
  exact hN q (by omega)

/-- What it comes to, the machine comes to. -/
theorem den_sound {pol : Pol} (hpol : PolOk P pol) : CallOk P (den P pol) := by
  intro f args h r he
  obtain ⟨N, hN⟩ := den_iff.1 he
  exact acall_sound hpol N f args h r (hN N (Nat.le_refl _))

end
end Go.Ve

/- VE: what the reading of an argument says. -/
namespace Go.Ve
open Go

/-- All that was there stays; nothing is anybody's. -/
def gOld (w : World) : Gh := ⟨fun _ => none, fun b _ => b < w.heap.size, fun _ => False⟩
theorem gOld_hr (w : World) : HR w (gOld w) [] where
  obj id o h := by simp at h
  inj b b' id h := nomatch h
  lt b l h := nomatch h
  bd b id h := nomatch h
  stlt b k h := h
  rsv _ _ h := by cases h
  rlt _ h := False.elim h

def tiles (P : Program) : List Field → Nat → Nat → Bool
  | [], o, n => Nat.beq o n
  | f :: fs, o, n => Nat.beq f.offset o && tiles P fs (o + P.cellsOf f.type) n

/-- Types of plain data. -/
def plainT (P : Program) : Nat → TypeId → Bool
  | 0, _ => false
  | n + 1, t =>
    match P.underlying t with
    | some .bool | some (.int _) | some .string => true
    | some (.slice e) => plainT P n e && Nat.blt 0 (P.cellsOf e)
    | some (.struct fs) => tiles P fs.toList 0 (P.cellsOf t) && fs.toList.all fun f => plainT P n f.type
    | some (.array m e) => plainT P n e && Nat.beq (P.cellsOf t) (m * P.cellsOf e)
    | _ => false

/-- Fields side by side. -/
def ShapeFs (S : TypeId → List AV → Prop) : List Field → List AV → Prop
  | [], avs => avs = []
  | f :: fs, avs => ∃ a b, avs = a ++ b ∧ S f.type a ∧ ShapeFs S fs b
def Shape (P : Program) : Nat → TypeId → List AV → Prop
  | 0, _, _ => False
  | n + 1, t, avs =>
    match P.underlying t with
    | some .bool => ∃ b, avs = [.bool b]
    | some (.int k) => ∃ z, avs = [.int k z] ∧ k.min ≤ z ∧ z ≤ k.max
    | some .string => ∃ s : List UInt8, avs = [.str s] ∧ s.length ≤ maxLen
    | some (.slice e) => ∃ rows, avs = [.list rows .no] ∧ rows.length ≤ maxLen ∧ ∀ r ∈ rows, Shape P n e r
    | some (.struct fs) => ShapeFs (Shape P n) fs.toList avs
    | some (.array m e) => ∃ rows : List (List AV), avs = rows.flatten ∧ rows.length = m ∧ ∀ r ∈ rows, Shape P n e r
    | _ => False

section
variable {P : Program} {w : World} {g : Gh} {H : Type} {enc : TypeId × Value → H} {base : Nat} {spare : Nat → Bool} {held : Bool}

def RepL (w : World) (g : Gh) (avs : List AV) (cs : List Value) : Prop := avs.length = cs.length ∧ ∀ (j : Nat) a c, avs[j]? = some a → cs[j]? = some c → a.one = true ∧ Rep w g wh0 a c

theorem RepL.nil : RepL w g [] [] := ⟨rfl, by simp⟩
theorem RepL.one {a : AV} {c : Value} (h1 : a.one = true) (h : Rep w g wh0 a c) : RepL w g [a] [c] := by
  refine ⟨rfl, fun j x y hx hy => ?_⟩
  cases j with
  | zero => simp at hx hy; subst hx; subst hy; exact ⟨h1, h⟩
  | succ j => simp at hx
theorem RepL.append {a b : List AV} {c d : List Value} (h1 : RepL w g a c) (h2 : RepL w g b d) : RepL w g (a ++ b) (c ++ d) := by
  refine ⟨by simp [h1.1, h2.1], fun j x y hx hy => ?_⟩
  by_cases hj : j < a.length
  · rw [List.getElem?_append_left hj] at hx
    rw [List.getElem?_append_left (by rw [← h1.1]; exact hj)] at hy
    exact h1.2 j x y hx hy
  · rw [List.getElem?_append_right (by omega)] at hx
    rw [List.getElem?_append_right (by rw [← h1.1]; omega), ← h1.1] at hy
    exact h2.2 _ x y hx hy

theorem mapM_range {α : Type} {n : Nat} {f : Nat → Option α} {m : List α} (h : (List.range n).mapM f = some m) : m.length = n ∧ ∀ j y, m[j]? = some y → f j = some y := by
  obtain ⟨h1, h2⟩ := mapM_get h
  refine ⟨by simpa using h1, fun j y hj => ?_⟩
  obtain ⟨x, h3, h4⟩ := h2 j y hj
  have := (List.getElem?_eq_some_iff.1 h3).2
  simp at this
  subst this
  exact h4

theorem cells_some {a : Addr} {n : Nat} {cs : List Value} (h : w.cells? base a n = some cs) : cs.length = n ∧ ∀ (j : Nat) c, cs[j]? = some c → w.cell? (a.add j) = some c := by
  unfold World.cells? at h
  split at h
  · exact mapM_range h
  · cases h

theorem cell_lt {a : Addr} {c : Value} (h : w.cell? a = some c) : a.block < w.heap.size ∧ a.spot = none := by
  unfold World.cell? at h
  split at h
  · rename_i hb
    split at h
    · cases h
    · rename_i hs
      exact ⟨(Array.getElem?_eq_some_iff.1 hb).1, by simpa using hs⟩
  · cases h

theorem tiles_read {S : TypeId → List AV → Prop} {cs : List Value} : ∀ (fs : List Field) (o : Nat), tiles P fs o cs.length = true → o ≤ cs.length →
    (∀ f ∈ fs, ∃ avs, S f.type avs ∧ RepL w g avs ((cs.drop f.offset).take (P.cellsOf f.type))) → ∃ avs, ShapeFs S fs avs ∧ RepL w g avs (cs.drop o)
  | [], o, h, _, _ => by
    have := Nat.eq_of_beq_eq_true h
    subst this
    exact ⟨[], rfl, by simp [RepL.nil]⟩
  | f :: fs, o, h, ho, hf => by
    simp only [tiles, Bool.and_eq_true] at h
    have e := Nat.eq_of_beq_eq_true h.1
    obtain ⟨a, h1, h2⟩ := hf f (by simp)
    have hle : o + P.cellsOf f.type ≤ cs.length := by
      have key : ∀ (fs : List Field) (o n : Nat), tiles P fs o n = true → o ≤ n := by
        intro fs
        induction fs with
        | nil => intro o n h; have := Nat.eq_of_beq_eq_true h; omega
        | cons f fs ih =>
          intro o n h
          simp only [tiles, Bool.and_eq_true] at h
          have := ih _ _ h.2
          omega
      exact key _ _ _ h.2
    obtain ⟨b, h3, h4⟩ := tiles_read fs (o + P.cellsOf f.type) h.2 hle fun f' hf' => hf f' (by simp [hf'])
    refine ⟨a ++ b, ⟨a, b, rfl, h1, h3⟩, ?_⟩
    rw [e] at h2
    have := h2.append h4
    rwa [← List.drop_drop, List.take_append_drop] at this

theorem read_cells (hst : ∀ b k, b < w.heap.size → g.st b k) : ∀ (n fuel : Nat) (t : TypeId) (cs : List Value) (x : DataW H × List MemPlace), plainT P n t = true → DataW.trod enc P w base spare held fuel t cs = some x →
    ∃ avs, Shape P n t avs ∧ RepL w g avs cs := by
  intro n
  induction n with
  | zero => intro fuel t cs x h; simp [plainT] at h
  | succ n ih =>
    intro fuel t cs x hp hx
    unfold plainT at hp
    split at hp
    · rename_i ht
      obtain ⟨b, rfl, _⟩ := DataW.trod_bool ht hx
      exact ⟨[.bool b], by simp [Shape, ht], .one rfl .bool⟩
    · rename_i k ht
      obtain ⟨z, rfl, _, hwf⟩ := DataW.trod_int ht hx
      simp only [Lit.wf, Bool.and_eq_true, decide_eq_true_eq] at hwf
      exact ⟨[.int k z], by simp only [Shape, ht]; exact ⟨z, rfl, hwf.1, hwf.2⟩, .one rfl .int⟩
    · rename_i ht
      obtain ⟨s, rfl, _, hl⟩ := DataW.trod_string ht hx
      refine ⟨[.str s.data.toList], by simp only [Shape, ht]; exact ⟨_, rfl, by rw [Array.length_toList]; exact hl⟩, .one rfl ?_⟩
      have := Rep.str (w := w) (g := g) (wh := wh0) (l := s.data.toList)
      simpa using this
    · rename_i e ht
      simp only [Bool.and_eq_true] at hp
      have hpos : 0 < P.cellsOf e := Nat.le_of_ble_eq_true hp.2
      rcases DataW.trod_slice ht hx with ⟨rfl, _⟩ | ⟨a, len, cap, elems, rest, f, _, rfl, _, _, hlc, hcm, hel, hget, _, _⟩
      · refine ⟨[.list [] .no], by simp only [Shape, ht]; exact ⟨[], rfl, Nat.zero_le _, by simp⟩, .one rfl ?_⟩
        exact .list 0 0 0 (fun _ _ => undef) rfl (Nat.le_refl _) (by simp) (by simp) (by simp) (by simp) trivial
      · have each : ∀ i, i < len → ∃ r, Shape P n e r ∧ ∃ cs, w.cells? base (a.add (i * P.cellsOf e)) (P.cellsOf e) = some cs ∧ RepL w g r cs := by
          intro i hi
          have h := hget i hi
          have h1 : i < elems.length := by omega
          rw [List.getElem?_eq_getElem h1, Option.bind_eq_some_iff] at h
          obtain ⟨cs, h2, h3⟩ := h
          obtain ⟨r, h4, h5⟩ := ih f e cs _ hp.1 h3
          exact ⟨r, h4, cs, h2, h5⟩
        have hrows : ∃ rows : List (List AV), rows.length = len ∧ ∀ (i : Nat) r, rows[i]? = some r → Shape P n e r ∧ ∃ cs, w.cells? base (a.add (i * P.cellsOf e)) (P.cellsOf e) = some cs ∧ RepL w g r cs := by
          have key : ∀ m, m ≤ len → ∃ rows : List (List AV), rows.length = m ∧ ∀ (i : Nat) r, rows[i]? = some r → Shape P n e r ∧ ∃ cs, w.cells? base (a.add (i * P.cellsOf e)) (P.cellsOf e) = some cs ∧ RepL w g r cs := by
            intro m
            induction m with
            | zero => intro _; exact ⟨[], rfl, by simp⟩
            | succ m ihm =>
              intro hm
              obtain ⟨rows, h1, h2⟩ := ihm (by omega)
              obtain ⟨r, h3, h4⟩ := each m (by omega)
              refine ⟨rows ++ [r], by simp [h1], fun i r' hr' => ?_⟩
              by_cases hi : i < rows.length
              · rw [List.getElem?_append_left hi] at hr'
                exact h2 i r' hr'
              · have : i = m := by
                  have := (List.getElem?_eq_some_iff.1 hr').1
                  simp at this; omega
                subst this
                rw [List.getElem?_append_right (by omega), h1] at hr'
                simp at hr'
                subst hr'
                exact ⟨h3, h4⟩
          exact key len (Nat.le_refl _)
        obtain ⟨rows, hlen, hr⟩ := hrows
        refine ⟨[.list rows .no], ?_, .one rfl ?_⟩
        · simp only [Shape, ht]
          refine ⟨rows, rfl, by omega, fun r hrm => ?_⟩
          obtain ⟨i, hi⟩ := List.getElem?_of_mem hrm
          exact (hr i r hi).1
        · have cellOf : ∀ (i : Nat) r (j : Nat) cl, rows[i]? = some r → r[j]? = some cl → ∃ v, w.cell? (a.add (i * P.cellsOf e + j)) = some v ∧ cl.one = true ∧ Rep w g wh0 cl v := by
            intro i r j cl hi hj
            obtain ⟨_, cs, h1, h2⟩ := hr i r hi
            have hjl : j < cs.length := by rw [← h2.1]; exact (List.getElem?_eq_some_iff.1 hj).1
            have h3 : cs[j]? = some cs[j] := by simp
            obtain ⟨h4, h5⟩ := h2.2 j cl _ hj h3
            have := (cells_some h1).2 j _ h3
            rw [Addr.add_add] at this
            exact ⟨_, this, h4, h5⟩
          have rowlen : ∀ r ∈ rows, r.length = P.cellsOf e := by
            intro r hrm
            obtain ⟨i, hi⟩ := List.getElem?_of_mem hrm
            obtain ⟨_, cs, h1, h2⟩ := hr i r hi
            rw [h2.1, (cells_some h1).1]
          have addr : rows ≠ [] → a = ⟨a.block, a.off, none⟩ := by
            intro hne
            obtain ⟨r, rs, hrs⟩ := List.exists_cons_of_ne_nil hne
            have h0 : rows[0]? = some r := by rw [hrs]; rfl
            have hl := rowlen r (by rw [hrs]; simp)
            obtain ⟨v, hv, _⟩ := cellOf 0 r 0 r[0] h0 (by simp)
            have := (cell_lt hv).2
            simp only [Nat.zero_mul, Nat.add_zero, Addr.add, if_true] at this
            cases a
            simp at this ⊢
            exact this
          refine .list a.block a.off (P.cellsOf e) (fun i j => (w.cell? (a.add (i * P.cellsOf e + j))).getD undef) hlen.symm (by omega) (fun hne => congrArg some (addr hne)) rowlen ?_ ?_ trivial
          · intro i r j cl hi hj
            obtain ⟨v, h1, h2, h3⟩ := cellOf i r j cl hi hj
            have hne : rows ≠ [] := by rintro rfl; simp at hi
            have hb := (cell_lt h1).1
            have hadd : a.add (i * P.cellsOf e + j) = ⟨a.block, a.off + (i * P.cellsOf e + j), none⟩ := by
              rw [addr hne]; exact Addr.add_lit _ _ _
            rw [hadd] at hb
            refine ⟨h2, hst _ _ hb, ?_⟩
            rw [h1, Option.getD_some, ← h1, hadd, Nat.add_assoc]
          · intro i r j cl hi hj
            obtain ⟨v, h1, h2, h3⟩ := cellOf i r j cl hi hj
            rw [h1, Option.getD_some]
            exact h3
    · rename_i fs ht
      simp only [Bool.and_eq_true, List.all_eq_true] at hp
      obtain ⟨xs, f, _, _, hcl, hxl, hget⟩ := DataW.trod_struct ht hx
      rw [← hcl] at hp
      obtain ⟨avs, h1, h2⟩ := tiles_read (g := g) (S := Shape P n) fs.toList 0 hp.1 (Nat.zero_le _) (fun fld hf => by
        obtain ⟨i, hi⟩ := List.getElem?_of_mem hf
        rw [Array.getElem?_toList] at hi
        have h3 := hget i fld hi
        have hil : i < xs.length := by rw [hxl]; exact (Array.getElem?_eq_some_iff.1 hi).1
        rw [List.getElem?_eq_getElem hil] at h3
        exact ih f _ _ _ (hp.2 fld hf) h3)
      refine ⟨avs, by simp only [Shape, ht]; exact h1, by simpa using h2⟩
    · rename_i m e ht
      simp only [Bool.and_eq_true] at hp
      have hsz := Nat.eq_of_beq_eq_true hp.2
      obtain ⟨xs, f, _, _, hcl, hxl, hget⟩ := DataW.trod_array ht hx
      have key : ∀ k, k ≤ m → ∃ rows : List (List AV), rows.length = k ∧ (∀ r ∈ rows, Shape P n e r) ∧ RepL w g rows.flatten (cs.take (k * P.cellsOf e)) := by
        intro k
        induction k with
        | zero => intro _; exact ⟨[], rfl, by simp, by simp [RepL.nil]⟩
        | succ k ihk =>
          intro hk
          obtain ⟨rows, h1, h2, h3⟩ := ihk (by omega)
          have h4 := hget k (by omega)
          have hil : k < xs.length := by omega
          rw [List.getElem?_eq_getElem hil] at h4
          obtain ⟨r, h5, h6⟩ := ih f e _ _ hp.1 h4
          refine ⟨rows ++ [r], by simp [h1], fun r' hr' => ?_, ?_⟩
          · rcases List.mem_append.1 hr' with h | h
            · exact h2 r' h
            · simp at h; subst h; exact h5
          · have := h3.append h6
            rw [List.flatten_append, List.flatten_singleton, Nat.succ_mul, List.take_add]
            exact this
      obtain ⟨rows, h1, h2, h3⟩ := key m (Nat.le_refl _)
      refine ⟨rows.flatten, by simp only [Shape, ht]; exact ⟨rows, rfl, h1, h2⟩, ?_⟩
      rwa [← hsz, ← hcl, List.take_length] at h3
    · cases hp

/-- A value of a type of plain data. -/
def ShapeV (P : Program) (n : Nat) (t : TypeId) (v : AV) : Prop := if isAgg P t then ∃ avs, v = .agg avs ∧ Shape P n t avs else Shape P n t [v]

theorem read_arg (hst : ∀ b k, b < w.heap.size → g.st b k) {n : Nat} {t : TypeId} {v : Value} {d : DataW H} {ps : List MemPlace} {r : Reach} {base' : Nat} (hp : plainT P n t = true) (hv : Value.okWide P w r base' t v)
    (hx : DataW.Trod enc P w base spare held t v d ps) : ∃ av, ShapeV P n t av ∧ Rep w g wh0 av v := by
  obtain ⟨fuel, hx⟩ := hx
  obtain ⟨avs, h1, h2⟩ := read_cells (g := g) hst n fuel t _ _ hp hx
  unfold ShapeV
  unfold Value.okWide at hv
  by_cases ha : isAgg P t = true
  · simp only [ha, if_true]
    have hv' : ∃ cs, v = .agg cs := by
      unfold isAgg at ha
      split at hv
      · obtain ⟨cs, rfl, _⟩ := hv; exact ⟨cs, rfl⟩
      · obtain ⟨cs, rfl, _⟩ := hv; exact ⟨cs, rfl⟩
      · rename_i h3 h4
        split at ha
        · rename_i h; exact absurd h (h3 _)
        · rename_i h; exact absurd h (h4 _ _)
        · cases ha
    obtain ⟨cs, rfl⟩ := hv'
    refine ⟨.agg avs, ⟨avs, rfl, h1⟩, .agg (by simpa [Value.cells] using h2.1.symm) fun j c u hc hu => ?_⟩
    have : (fun _ _ => wh0 0 j : Wh) = wh0 := rfl
    rw [this]
    exact (h2.2 j c u hc (by simpa [Value.cells] using hu)).2
  · simp only [ha]
    have hone : ∃ a, avs = [a] := by
      cases n with
      | zero => exact h1.elim
      | succ n =>
        unfold Shape at h1
        unfold isAgg at ha
        split at h1
        · obtain ⟨b, rfl⟩ := h1; exact ⟨_, rfl⟩
        · obtain ⟨b, rfl, _⟩ := h1; exact ⟨_, rfl⟩
        · obtain ⟨b, rfl, _⟩ := h1; exact ⟨_, rfl⟩
        · obtain ⟨b, rfl, _⟩ := h1; exact ⟨_, rfl⟩
        · rename_i h; rw [h] at ha; simp at ha
        · rename_i h; rw [h] at ha; simp at ha
        · exact h1.elim
    obtain ⟨a, rfl⟩ := hone
    refine ⟨a, h1, ?_⟩
    have hv' : ∃ c, v.cells.toList = [c] := by
      have := h2.1
      cases hcs : v.cells.toList with
      | nil => rw [hcs] at this; simp at this
      | cons c l => cases l with
        | nil => exact ⟨c, rfl⟩
        | cons c' l => rw [hcs] at this; simp at this
    obtain ⟨c, hc⟩ := hv'
    have hcv : v = c := by
      cases v with
      | agg cs =>
        exfalso
        unfold isAgg at ha
        split at hv
        · rename_i h; rw [h] at ha; simp at ha
        · rename_i h; rw [h] at ha; simp at ha
        · unfold Cell.okWide at hv
          split at hv <;> first | (rename_i h; cases h; done) | skip
          unfold Cell.ok at hv
          split at hv <;> first | exact hv | (rename_i h; cases h; done) | skip
          all_goals (rename_i h _; cases h)
      | _ => simp [Value.cells] at hc; exact hc
    subst hcv
    rw [hc] at h2
    exact (h2.2 0 a v rfl rfl).2
end
end Go.Ve

/- VE: the call of a law. -/
namespace Go.Ve
open Go

section
variable {P : Program} {w : World} {g : Gh}

def ArgsL (w : World) (g : Gh) : List AV → List Value → Prop
  | [], [] => True
  | a :: as₁, v :: vs => Rep w g wh0 a v ∧ ArgsL w g as₁ vs
  | _, _ => False
theorem ArgsL.get : ∀ {as₁ : List AV} {vs : List Value}, ArgsL w g as₁ vs → vs.length = as₁.length ∧ ∀ (j : Nat) x v, as₁[j]? = some x → vs[j]? = some v → Rep w g wh0 x v
  | [], [], _ => ⟨rfl, by simp⟩
  | a :: as₁, v :: vs, h => by
    obtain ⟨h1, h2⟩ := h
    obtain ⟨h3, h4⟩ := h2.get
    refine ⟨by simp [h3], fun j x u hx hu => ?_⟩
    cases j with
    | zero => simp at hx hu; subst hx; subst hu; exact h1
    | succ j => exact h4 j x u (by simpa using hx) (by simpa using hu)
  | [], _ :: _, h => h.elim
  | _ :: _, [], h => h.elim
theorem ArgsL.rep {as₁ : List AV} {vals : Array Value} (h : ArgsL w g as₁ vals.toList) : ArgsRep w g as₁ vals := by
  obtain ⟨h1, h2⟩ := h.get
  refine ⟨by simpa using h1, fun j x v hx hv => h2 j x v hx (by rw [Array.getElem?_toList]; exact hv)⟩

theorem below_of_ev {w' : World} {g' : Gh} (ev : Ev w (gOld w) w' g') : RowKit.Below w.heap.size w w' where
  os := congrArg Prod.fst ev.os
  tape := congrArg Prod.snd ev.os
  output := ev.out
  size := ev.size
  block k hk := (ev.old k hk rfl).2.1

/-- A law's call: what it comes to by value it comes to in the machine, and all that was there stays. -/
theorem law_calls {pol : Pol} (hpol : PolOk P pol) {f : FuncId} {fn : Func} {c : Code} (hf : P.funcs[f]? = some fn) (hb : fn.body = some c) (hok : resOk fn = true) {args : List AV} {vals : Array Value} (ha : ArgsL w (gOld w) args vals.toList)
    (h : ∃ h', den P pol f args [] = some (.ret (.bool true), h')) : Calls P f vals w fun e w' => e = .returned (.bool true) ∧ RowKit.Below w.heap.size w w' := by
  obtain ⟨h', h⟩ := h
  rcases den_sound hpol f args [] _ h vals w (gOld w) (gOld_hr w) ha.rep with ⟨_, h2⟩ | ⟨u, w', h1, _⟩
  · refine h2.mono fun e w' hp => ?_
    cases e with
    | returned u =>
      obtain ⟨v, g', e1, ev, _, _, hr⟩ := hp
      cases e1
      cases hr
      exact ⟨rfl, below_of_ev ev⟩
    | panicked ch => obtain ⟨v, u, g', e1, _⟩ := hp; cases e1
    | outgrown => exact hp.elim
  · rw [callFunc_enter hf hb hok] at h1
    cases h1
end
end Go.Ve

/- VE: a function's meaning out of its body. -/
namespace Go.Ve
open Go

def look {α : Type} (f : Nat) : List (Nat × α) → Option α
  | [] => none
  | p :: l => bif Nat.beq p.1 f then some p.2 else look f l
/-- A policy out of tables: how each function is told; which are called in the caller's heap. -/
def tabPol (t : List (Nat × FAnn × Ann)) (here : List Nat) (ext : List (Nat × (List AV → H → Option (AEnd × H)))) : Pol :=
  { ann := fun f => (look f t).getD ({}, .nil), mode := fun f => bif here.contains f then 1 else 0, ext := fun f => look f ext }

section
variable {P : Program} {pol : Pol} {f : FuncId} {fn : Func} {c : Code} {args : List AV} {h h' : H} {v w : AV}

theorem mapM_pure (hp : pureL args = true) (h : H) : args.mapM (AV.freeze h) = some args := mapM_id' fun _ hx => freeze_pure (pureL_mem hp _ hx)

theorem ne0 {m : Nat} (h : m = 1) : m ≠ 0 := by omega

/-- By value. -/
theorem den_val (hx : pol.ext f = none) (hf : P.funcs[f]? = some fn) (hb : fn.body = some c) (hm : pol.mode f = 0) (hok : (resOk fn && Nat.ble args.length fn.ntmps && (pol.ann f).1.q.all pol.still) = true) (n : Nat) (hp : pureL args = true)
    (he : body P (pol.ann f).1 (den P pol) fn (pol.ann f).2 n c args [] = some (.ret v, h')) (hv : v.freeze h' = some w) (hw : w.pure = true) (hro : retOk fn (.ret w) = true) : den P pol f args h = some (.ret w, h) := by
  refine den_pure hx hf hb hm hok n ?_
  unfold retChk pureCall
  rw [mapM_pure hp]
  simp only [hp, if_true, he]
  rw [hv]
  simp only [Option.bind_some, hw, Bool.true_and, Bool.true_or, if_true, hro]
/-- The same, where what comes is pure. -/
theorem den_val0 (hx : pol.ext f = none) (hf : P.funcs[f]? = some fn) (hb : fn.body = some c) (hm : pol.mode f = 0) (hok : (resOk fn && Nat.ble args.length fn.ntmps && (pol.ann f).1.q.all pol.still) = true) (n : Nat) (hp : pureL args = true)
    (he : body P (pol.ann f).1 (den P pol) fn (pol.ann f).2 n c args [] = some (.ret v, h')) (hw : v.pure = true) (hro : retOk fn (.ret v) = true) : den P pol f args h = some (.ret v, h) :=
  den_val hx hf hb hm hok n hp he (freeze_pure hw) hw hro
/-- The same: its arguments are read out of the heap. -/
theorem den_val' {as₁ : List AV} (hx : pol.ext f = none) (hf : P.funcs[f]? = some fn) (hb : fn.body = some c) (hm : pol.mode f = 0) (hok : (resOk fn && Nat.ble args.length fn.ntmps && (pol.ann f).1.q.all pol.still) = true) (n : Nat) (hfr : args.mapM (AV.freeze h) = some as₁) (hp : pureL as₁ = true)
    (he : body P (pol.ann f).1 (den P pol) fn (pol.ann f).2 n c as₁ [] = some (.ret v, h')) (hv : v.freeze h' = some w) (hw : w.pure = true) (hwf : w.flat = true) (hro : retOk fn (.ret w) = true) : den P pol f args h = some (.ret w, h) := by
  refine den_pure hx hf hb hm hok n ?_
  unfold retChk pureCall
  rw [hfr]
  simp only [hp, if_true, he]
  rw [hv]
  simp only [Option.bind_some, hw, hwf, Bool.or_true, Bool.and_true, if_true, hro]
/-- In the caller's heap. -/
theorem den_at {r : AEnd} (hx : pol.ext f = none) (hf : P.funcs[f]? = some fn) (hb : fn.body = some c) (hm : pol.mode f ≠ 0) (hok : (resOk fn && Nat.ble args.length fn.ntmps && (pol.ann f).1.q.all pol.still) = true) (n : Nat)
    (he : body P (pol.ann f).1 (den P pol) fn (pol.ann f).2 n c args h = some (r, h')) (hro : retOk fn r = true) : den P pol f args h = some (r, h') := by
  refine den_here hx hf hb hm hok n ?_
  unfold retChk
  rw [he]
  simp only [hro, if_true]
end
end Go.Ve

/- VE: functions of the library whose meaning is taken from the kit. -/
namespace Go.Ve
open Go

section
variable {P : Program}

def ExtOk (P : Program) (f : FuncId) (e : List AV → H → Option (AEnd × H)) : Prop :=
  ∀ (args : List AV) (h : H) (r : AEnd × H), e args h = some r → ∀ (vals : Array Value) (w : World) (g : Gh), HR w g h → ArgsRep w g args vals → Callee P f vals w (CPost w g r)

theorem polOk_tab {t : List (Nat × FAnn × Ann)} {here : List Nat} {ext : List (Nat × (List AV → H → Option (AEnd × H)))} (hm : P.follows .mixedOrders = true) (he : ∀ p ∈ ext, ExtOk P p.1 p.2) : PolOk P (tabPol t here ext) where
  mixed := hm
  ext f e hf := by
    have key : ∀ l : List (Nat × (List AV → H → Option (AEnd × H))), look f l = some e → (f, e) ∈ l := by
      intro l
      induction l with
      | nil => intro h; cases h
      | cons p l ih =>
        intro h
        simp only [look] at h
        cases hb : Nat.beq p.1 f with
        | true =>
          rw [hb] at h
          simp only [cond_true, Option.some.injEq] at h
          have := Nat.eq_of_beq_eq_true hb
          subst this; subst h
          simp
        | false => rw [hb] at h; exact List.mem_cons_of_mem _ (ih h)
    exact he _ (key _ hf)

/-- slices.Grow on nothing. -/
def growNil (s bytes : Nat) : List AV → H → Option (AEnd × H)
  | [.list [] .cap, .int .i64 n], h => if 0 ≤ n ∧ n * bytes ≤ 2 ^ 46 ∧ n < 2 ^ 46 then some (.ret (.list [] (.own s)), h) else none
  | _, _ => none

theorem argsRep_two {w : World} {g : Gh} {x y : AV} {vals : Array Value} (ha : ArgsRep w g [x, y] vals) : ∃ u v, vals = #[u, v] ∧ Rep w g wh0 x u ∧ Rep w g wh0 y v := by
  obtain ⟨h1, h2⟩ := ha
  obtain ⟨l⟩ := vals
  match l, h1 with
  | [u, v], _ => exact ⟨u, v, rfl, h2 0 x u rfl rfl, h2 1 y v rfl rfl⟩

theorem growNil_ok {ρ : Shelf.Ren} (L : Proofs.Lays8.n4 P ρ) {f : FuncId} {fn : Func} {c : Code} (hρ : ρ.f 4 = f) (hf : P.funcs[f]? = some fn) (hb : fn.body = some c) (hok : resOk fn = true) (i0 : TypeInfo) (z : Value) (hi0 : P.info? (ρ.t 25) = some i0) (hz0 : i0.zero = some z) (hs0 : 0 < i0.size) (hzs : z.cells.size = i0.size) : ExtOk P f (growNil i0.size i0.bytes) := by
  subst hρ
  intro args h r he vals w g hH ha
  unfold growNil at he
  split at he
  · rename_i hp n
    split at he
    · rename_i hc
      cases he
      obtain ⟨u, v, rfl, r1, r2⟩ := argsRep_two ha
      cases r2
      cases r1 with
      | @list _ _ _ a n' cp b off s fv hn hnc hne hlen h1 h2 hroom =>
        simp only [List.length_nil] at hn
        subst hn
        have hcp : cp = 0 := hroom
        subst hcp
        obtain ⟨m, rfl⟩ : ∃ m : Nat, n = (m : Int) := ⟨n.toNat, by omega⟩
        refine .inl ⟨callFunc_enter hf hb hok _, ?_⟩
        have hmb : m * i0.bytes ≤ 2 ^ 46 := by exact_mod_cast hc.2.1
        by_cases hm : m = 0
        · subst hm
          refine (Proofs.Any8.slices_Grow_room L a 0 0 0 w (by omega) (by omega) (by omega) (by omega)).mono fun e w' he => ?_
          obtain ⟨rfl, rfl⟩ := he
          refine ⟨_, g, rfl, .refl w' g, hH, fun _ _ _ _ hb => ⟨hb, rfl, fun _ h => h⟩, ?_⟩
          exact .list 0 0 0 (fun _ _ => undef) rfl (Nat.le_refl _) (by simp) (by simp) (by simp) (by simp) (fun _ _ => .inl rfl)
        · refine (Proofs.Any8.slices_Grow_grow L i0 z hi0 hz0 hs0 a 0 0 m [] w (by omega) (by omega) (by rw [Nat.zero_add]; omega) (by omega) (by simp) (fun _ => rfl) (fun _ _ j v hj => by simp at hj)).mono fun e w' he => ?_
          obtain ⟨rfl, rfl⟩ := he
          have hge := grownCap_ge w (0 + m) 0 (ρ.t 25)
          have nw := new_mk_drew w g (.cells (([] : List Value).toArray ++ Builtin.zeroCells z.cells (0 + m - 0) ++ Builtin.zeroCells z.cells (grownCap w (0 + m) 0 (ρ.t 25) - (0 + m))) (ρ.t 25)) (some (.res 0 0)) (fun _ => False)
          refine ⟨_, _, rfl, nw.ev hH, nw.hr hH (by simp), fun _ _ _ => nw.keeps hH _, ?_⟩
          refine .list w.heap.size 0 i0.size (fun _ _ => undef) rfl (Nat.zero_le _) (by simp) (by simp) (by simp) (by simp) ?_
          intro l' hl'
          have hl2 : l' = .res 0 0 := by simpa using hl'.symm
          subst hl2
          refine .inr ⟨w.heap.size, 0, _, ρ.t 25, _, rfl, by rw [nw.own]; simp, nw.at_new, ?_, fun k _ hs' => by rw [nw.st] at hs'; simp at hs', fun k _ _ => by have h2 := nw.at_new; generalize w.drew.alloc _ = w2 at h2; simp only [World.frozen?, h2]; simp⟩
          have h3 : (grownCap w (0 + m) 0 (ρ.t 25) - (0 + m)) * i0.size = grownCap w (0 + m) 0 (ρ.t 25) * i0.size - (0 + m) * i0.size := Nat.sub_mul _ _ _
          have h4 : (0 + m) * i0.size ≤ grownCap w (0 + m) 0 (ρ.t 25) * i0.size := Nat.mul_le_mul_right _ hge
          simp only [Array.size_append, List.size_toArray, List.length_nil, size_zeroCells, hzs]
          simp only [Nat.sub_zero] at h3 h4 ⊢
          omega
    · cases he
  · cases he

/-- internal/bytealg.IndexByteString. -/
def indexByte : List AV → H → Option (AEnd × H)
  | [.str s, .int .u8 c], h => some (.ret (.int .i64 (Lib.indexByte s c.toNat.toUInt8)), h)
  | _, _ => none

theorem indexByte_ok {f : FuncId} {fn : Func} (hf : P.funcs[f]? = some fn) (hname : (fn.name == "runtime.NumGoroutine") = false) (hb : fn.body.isNone = true) (hn : Extern.findNext fn = none) (he : Extern.find fn = some Extern.BytealgIndexByte.indexByte) : ExtOk P f indexByte := by
  intro args h r hr vals w g hH ha
  unfold indexByte at hr
  split at hr
  · rename_i s c h
    cases hr
    obtain ⟨u, v, rfl, r1, r2⟩ := argsRep_two ha
    cases r1; cases r2
    refine .inr ⟨_, w, ?_, ⟨_, g, rfl, .refl w g, hH, fun _ _ _ _ hb => ⟨hb, rfl, fun _ h => h⟩, .int⟩⟩
    rw [run_callFunc_extern hf hname hb hn he, Lib.run_indexByteString]
    rfl
  · cases hr
end
end Go.Ve

/- VE: what comes to pass at each place of a function, told by what comes to pass at the next ones. -/
namespace Go.Ve
open Go

section
variable {R : Type} {P : Program} {A : FAnn} {call : Cl} {n : Nat}

theorem sub_append : ∀ (p q : List Nat) (c : Code), isAt p c = true → sub (p ++ q) c = sub q (sub p c)
  | [], _, _, _ => rfl
  | x :: p, q, c, h => by
    cases c <;> rcases x with _ | _ | x <;> first | exact sub_append p q _ h | (simp [isAt] at h; done)
theorem ansub_append : ∀ (p q : List Nat) (an : Ann), an.sub (p ++ q) = (an.sub p).sub q
  | [], _, _ => rfl
  | x :: p, q, an => by
    rcases x with _ | x
    · exact ansub_append p q an.a
    · exact ansub_append p q an.b
theorem isAt_append : ∀ (p q : List Nat) (c : Code), isAt p c = true → isAt (p ++ q) c = isAt q (sub p c)
  | [], _, _, _ => rfl
  | x :: p, q, c, h => by
    cases c <;> rcases x with _ | _ | x <;> first | exact isAt_append p q _ h | (simp [isAt] at h; done)
theorem loops_append : ∀ (p q : List Nat) (c : Code), isAt p c = true → loops (p ++ q) c = loops p c + loops q (sub p c)
  | [], _, _, _ => by simp [loops, sub]
  | x :: p, q, c, h => by
    cases c <;> rcases x with _ | _ | x <;> first | exact loops_append p q _ h | (have := loops_append p q _ h; simp only [List.cons_append, loops, sub] at this ⊢; omega) | (simp [isAt] at h; done)
theorem kAt_append : ∀ (p q ms ms' : List Nat) (c : Code) (an : Ann) (k : K R), isAt p c = true → ms.length = loops p c → kAt P A call n (p ++ q) (ms ++ ms') c an k = kAt P A call n q ms' (sub p c) (an.sub p) (kAt P A call n p ms c an k)
  | [], q, ms, ms', c, an, k, _, hl => by
    have : ms = [] := List.eq_nil_of_length_eq_zero (by simpa [loops] using hl)
    subst this
    simp [kAt, sub, Ann.sub]
  | x :: p, q, ms, ms', c, an, k, h, hl => by
    cases c <;> first | (simp [isAt] at h; done) | skip
    case loop c =>
      rcases x with _ | x
      · cases ms with
        | nil => simp [loops] at hl
        | cons m ms =>
          simp only [isAt] at h
          simp only [loops, List.length_cons, Nat.add_right_cancel_iff] at hl
          exact kAt_append p q ms ms' c an.a _ h hl
      · simp [isAt] at h
    all_goals (rcases x with _ | _ | x <;> first | exact kAt_append p q ms ms' _ _ _ h hl | (simp [isAt] at h; done))

/-- A place in a function: the code there, how it is told, what follows it. -/
structure At (P : Program) (A : FAnn) (call : Cl) (fn : Func) (an0 : Ann) (c0 : Code) (n : Nat) (p ms : List Nat) (c : Code) (an : Ann) (k : K (AEnd × H)) : Prop where
  is : isAt p c0 = true
  sub : sub p c0 = c
  an : an0.sub p = an
  len : ms.length = loops p c0
  k : kAt P (A.fit fn) call n p ms c0 an0 (kTop P A call n fn) = k

section
variable {fn : Func} {an0 : Ann} {c0 : Code} {p ms : List Nat} {c : Code} {an : Ann} {k : K (AEnd × H)}

theorem At.step (h : At P A call fn an0 c0 n p ms c an k) (x : Nat) (ms' : List Nat) (hi : isAt [x] c = true) (hl : ms'.length = loops [x] c) : At P A call fn an0 c0 n (p ++ [x]) (ms ++ ms') (Go.Ve.sub [x] c) (an.sub [x]) (kAt P (A.fit fn) call n [x] ms' c an k) := by
  refine ⟨?_, ?_, ?_, ?_, ?_⟩
  · rw [isAt_append p _ _ h.is, h.sub]; exact hi
  · rw [sub_append p _ _ h.is, h.sub]
  · rw [ansub_append, h.an]
  · rw [loops_append p _ _ h.is, h.sub, List.length_append, h.len, hl]
  · rw [kAt_append p _ ms ms' _ _ _ h.is h.len, h.sub, h.an, h.k]
theorem At.step0 (h : At P A call fn an0 c0 n p ms c an k) (x : Nat) (hi : isAt [x] c = true) (hl : 0 = loops [x] c) : At P A call fn an0 c0 n (p ++ [x]) ms (Go.Ve.sub [x] c) (an.sub [x]) (kAt P (A.fit fn) call n [x] [] c an k) := by
  have := h.step x [] hi hl
  rwa [List.append_nil] at this

theorem realJ_at (h : At P A call fn an0 c0 n p ms c an k) (hc : isLoop c = false) (s : St) : realJ P A call fn an0 c0 n p ms s = exec P (A.fit fn) call n c an k s := by
  unfold realJ
  rw [h.sub]
  cases c <;> first | (simp [isLoop] at hc; done) | (simp only [h.k, h.an])
theorem realJ_loop {c' : Code} (h : At P A call fn an0 c0 n p ms (.loop c') an k) (m : Nat) (s : St) : realJ P A call fn an0 c0 n p (ms ++ [m]) s = loopN (fun again s' => exec P (A.fit fn) call n c' an.a { k with normal := fun s'' => again (an.a.enter s'') } s') m s := by
  have h1 := sub_append p [0] c0 h.is
  have h2 := ansub_append p [0] an0
  rw [h.sub] at h1
  rw [h.an] at h2
  unfold realJ
  rw [h.sub]
  simp only [List.reverse_append, List.reverse_cons, List.reverse_nil, List.nil_append, List.singleton_append, List.reverse_reverse, h.k, h1, h2]
  rfl

/-- Looked at as it is, or told place by place: it is the same. -/
theorem exec_told : ∀ (c : Code) (p ms : List Nat) (an : Ann) (k : K (AEnd × H)) (s : St), At P A call fn an0 c0 n p ms c an k →
    exec P (A.fit fn) call n c an k s = execJ (rgOf P (A.fit fn) call) (rqOf P (A.fit fn) call) n (realJ P A call fn an0 c0 n) c p ms an k s := by
  intro c
  induction c with
  | skip => intros; rfl
  | label l => intros; rfl
  | exit id => intros; rfl
  | ret => intros; rfl
  | goto l => intros; rfl
  | refuse l => intros; rfl
  | rangeFunc f ps x y => intros; rfl
  | region r ops draw => intros; cases draw <;> rfl
  | seq a b iha ihb =>
    intro p ms an k s h
    have ha := h.step0 0 rfl rfl
    have hb := h.step0 1 rfl rfl
    have e : (fun s' => exec P (A.fit fn) call n b an.b k (an.b.enter s')) = fun s' => pickJ (an.b.kept && !isLoop b) (realJ P A call fn an0 c0 n (p ++ [1]) ms (an.b.enter s')) (execJ (rgOf P (A.fit fn) call) (rqOf P (A.fit fn) call) n (realJ P A call fn an0 c0 n) b (p ++ [1]) ms an.b k (an.b.enter s')) := by
      funext s'
      cases hk : an.b.kept && !isLoop b with
      | true =>
        simp only [Bool.and_eq_true, Bool.not_eq_true'] at hk
        exact (realJ_at hb hk.2 _).symm
      | false => exact ihb (p ++ [1]) ms an.b k _ hb
    show exec P (A.fit fn) call n a an.a { k with normal := fun s' => exec P (A.fit fn) call n b an.b k (an.b.enter s') } (an.a.enter s) = _
    rw [iha (p ++ [0]) ms an.a { k with normal := fun s' => exec P (A.fit fn) call n b an.b k (an.b.enter s') } _ ha]
    simp only [execJ]
    rw [← e]
  | cond x a b iha ihb =>
    intro p ms an k s h
    have ha := h.step0 0 rfl rfl
    have hb := h.step0 1 rfl rfl
    show condA (vOf s.fr x) (exec P (A.fit fn) call n a an.a k (an.a.enter s)) (exec P (A.fit fn) call n b an.b k (an.b.enter s)) = _
    rw [iha (p ++ [0]) ms an.a k _ ha, ihb (p ++ [1]) ms an.b k _ hb]
    rfl
  | block id c ih =>
    intro p ms an k s h
    have ha := h.step0 0 rfl rfl
    exact ih (p ++ [0]) ms an.a _ _ ha
  | loop c ih =>
    intro p ms an k s h
    show loopN _ n (an.a.enter s) = realJ P A call fn an0 c0 n p (ms ++ [n]) (an.a.enter s)
    rw [realJ_loop h]
  | scope c ih =>
    intro p ms an k s h
    have ha := h.step0 0 rfl rfl
    exact ih (p ++ [0]) ms an.a _ _ ha

theorem kAt_told : ∀ (p ms q mq : List Nat) (c : Code) (an : Ann) (k : K (AEnd × H)), At P A call fn an0 c0 n q mq c an k → isAt p c = true → ms.length = loops p c →
    kAtJ (rgOf P (A.fit fn) call) (rqOf P (A.fit fn) call) n (realJ P A call fn an0 c0 n) p ms q mq c an k = kAt P (A.fit fn) call n p ms c an k
  | [], ms, q, mq, c, an, k, _, _, _ => by
    cases c <;> rfl
  | x :: p, ms, q, mq, c, an, k, h, hi, hl => by
    cases c <;> first | (simp [isAt] at hi; done) | skip
    case loop c =>
      rcases x with _ | x
      · cases ms with
        | nil => simp [loops] at hl
        | cons m ms =>
          simp only [isAt] at hi
          simp only [loops, List.length_cons, Nat.add_right_cancel_iff] at hl
          have hs := h.step 0 [m] rfl rfl
          have e : (fun s'' => realJ P A call fn an0 c0 n q (mq ++ [m]) (an.a.enter s'')) = fun s'' => loopN (fun again s' => exec P (A.fit fn) call n c an.a { k with normal := fun s'' => again (an.a.enter s'') } s') m (an.a.enter s'') := by
            funext s''
            exact realJ_loop h m _
          simp only [kAtJ, kAt]
          rw [e]
          exact kAt_told p ms (q ++ [0]) (mq ++ [m]) c an.a _ hs hi hl
      · simp [isAt] at hi
    case seq a b =>
      rcases x with _ | _ | x
      · have ha := h.step0 0 rfl rfl
        have hb := h.step0 1 rfl rfl
        have e : (fun s' => pickJ (an.b.kept && !isLoop b) (realJ P A call fn an0 c0 n (q ++ [1]) mq (an.b.enter s')) (execJ (rgOf P (A.fit fn) call) (rqOf P (A.fit fn) call) n (realJ P A call fn an0 c0 n) b (q ++ [1]) mq an.b k (an.b.enter s'))) = fun s' => exec P (A.fit fn) call n b an.b k (an.b.enter s') := by
          funext s'
          cases hk : an.b.kept && !isLoop b with
          | true =>
            simp only [Bool.and_eq_true, Bool.not_eq_true'] at hk
            exact realJ_at hb hk.2 _
          | false => exact (exec_told b (q ++ [1]) mq an.b k _ hb).symm
        simp only [kAtJ, kAt]
        rw [e]
        exact kAt_told p ms (q ++ [0]) mq a an.a _ ha hi hl
      · exact kAt_told p ms (q ++ [1]) mq b an.b k (h.step0 1 rfl rfl) hi hl
      · simp [isAt] at hi
    case cond y a b =>
      rcases x with _ | _ | x
      · exact kAt_told p ms (q ++ [0]) mq a an.a k (h.step0 0 rfl rfl) hi hl
      · exact kAt_told p ms (q ++ [1]) mq b an.b k (h.step0 1 rfl rfl) hi hl
      · simp [isAt] at hi
    case block id c =>
      rcases x with _ | x
      · exact kAt_told p ms (q ++ [0]) mq c an.a _ (h.step0 0 rfl rfl) hi hl
      · simp [isAt] at hi
    case scope c =>
      rcases x with _ | x
      · exact kAt_told p ms (q ++ [0]) mq c an.a _ (h.step0 0 rfl rfl) hi hl
      · simp [isAt] at hi

theorem at_of {p ms : List Nat} (h1 : isAt p c0 = true) (h2 : ms.length = loops p c0) : At P A call fn an0 c0 n p ms (sub p c0) (an0.sub p) (kAt P (A.fit fn) call n p ms c0 an0 (kTop P A call n fn)) := ⟨h1, rfl, rfl, h2, rfl⟩
theorem at_top : At P A call fn an0 c0 n [] [] c0 an0 (kTop P A call n fn) := ⟨rfl, rfl, rfl, rfl, by cases c0 <;> rfl⟩

theorem realJ_fix : JFix P A call fn an0 c0 n (realJ P A call fn an0 c0 n) := by
  intro p ms s hok
  simp only [okJ, Bool.and_eq_true] at hok
  obtain ⟨hi, hl⟩ := hok
  have hl := Nat.eq_of_beq_eq_true hl
  cases hc : isLoop (sub p c0) with
  | true =>
    rw [hc] at hl
    simp only [cond_true] at hl
    obtain ⟨c', hc'⟩ : ∃ c', sub p c0 = .loop c' := by
      cases h : sub p c0 <;> rw [h] at hc <;> first | (simp [isLoop] at hc; done) | exact ⟨_, rfl⟩
    obtain ⟨ms', m, rfl⟩ : ∃ ms' m, ms = ms' ++ [m] := ⟨ms.dropLast, ms.getLast (by rintro rfl; simp at hl), (List.dropLast_concat_getLast _).symm⟩
    simp only [List.length_append, List.length_cons, List.length_nil, Nat.zero_add, Nat.add_right_cancel_iff] at hl
    have h := at_of (P := P) (A := A) (call := call) (fn := fn) (an0 := an0) (n := n) hi hl
    rw [hc'] at h
    rw [realJ_loop h]
    unfold atJ
    rw [hc']
    simp only [List.reverse_append, List.reverse_cons, List.reverse_nil, List.nil_append, List.singleton_append]
    cases m with
    | zero => rfl
    | succ m =>
      simp only [loopN]
      have hs := h.step 0 [m] rfl rfl
      have h1 := hs.sub
      have h2 := hs.an
      simp only [List.reverse_reverse]
      have hk : kAtJ (rgOf P (A.fit fn) call) (rqOf P (A.fit fn) call) n (realJ P A call fn an0 c0 n) (p ++ [0]) (ms' ++ [m]) [] [] c0 an0 (kTop P A call n fn) = kAt P (A.fit fn) call n (p ++ [0]) (ms' ++ [m]) c0 an0 (kTop P A call n fn) := kAt_told _ _ _ _ _ _ _ at_top hs.is hs.len
      rw [hk, hs.k, h2]
      exact exec_told c' (p ++ [0]) (ms' ++ [m]) _ _ _ hs
  | false =>
    rw [hc] at hl
    simp only [cond_false] at hl
    have h := at_of (P := P) (A := A) (call := call) (fn := fn) (an0 := an0) (n := n) hi hl
    rw [realJ_at h hc]
    rw [exec_told _ p ms _ _ _ h]
    have hk : kAtJ (rgOf P (A.fit fn) call) (rqOf P (A.fit fn) call) n (realJ P A call fn an0 c0 n) p ms [] [] c0 an0 (kTop P A call n fn) = kAt P (A.fit fn) call n p ms c0 an0 (kTop P A call n fn) := kAt_told _ _ _ _ _ _ _ at_top hi hl
    unfold atJ
    rw [hk]
    cases hs : sub p c0 <;> rw [hs] at hc <;> first | (simp [isLoop] at hc; done) | rfl

/-- The whole of a function. -/
theorem body_real (args : List AV) (h : H) (hc : isLoop c0 = false) : body P A call fn an0 n c0 args h = realJ P A call fn an0 c0 n [] [] (an0.enter ⟨argFr 0 args, [], [], h⟩) := (realJ_at at_top hc _).symm
end
end
end Go.Ve

/- VE: the operations, told of plain values. -/
namespace Go.Ve
open Go

section
variable {k k' : IntKind} {a b : Int} {h : H} {R : Type}

/-! What stands first is looked at first; the rest only when it is known. -/
@[congr] theorem bind_first {α β : Type} {x x' : Option α} {f : α → Option β} (h : x = x') : x.bind f = x'.bind f := by rw [h]
@[congr] theorem condV_first {c c' : AV} {x y : Option R} (h : c = c') : condV c x y = condV c' x y := by rw [h]
@[congr] theorem retOr_first {e e' : AEnd} {kp kv : AV → R} (h : e = e') : retOr e kp kv = retOr e' kp kv := by rw [h]

@[simp high] theorem bind_some' {α β : Type} {a : α} {f : α → Option β} : (some a).bind f = f a := (Eq.refl _).trans rfl
@[simp] theorem bin_add : bin .add (.int k a) (.int k b) = some (.int k (k.wrap (a + b))) := by simp [bin, intBin]
@[simp] theorem bin_sub : bin .sub (.int k a) (.int k b) = some (.int k (k.wrap (a - b))) := by simp [bin, intBin]
@[simp] theorem bin_mul : bin .mul (.int k a) (.int k b) = some (.int k (k.wrap (a * b))) := by simp [bin, intBin]
@[simp] theorem bin_quo : bin .quo (.int k a) (.int k b) = if b = 0 then none else some (.int k (k.wrap (a.tdiv b))) := by simp [bin, intBin]
@[simp] theorem bin_rem : bin .rem (.int k a) (.int k b) = if b = 0 then none else some (.int k (a.tmod b)) := by simp [bin, intBin]
@[simp] theorem bin_eql : bin .eql (.int k a) (.int k b) = some (.bool (decide (a = b))) := by simp [bin, intBin]; rfl
@[simp] theorem bin_neq : bin .neq (.int k a) (.int k b) = some (.bool (decide (a ≠ b))) := by simp [bin, intBin, bne]; by_cases h : a = b <;> simp [h]
@[simp] theorem bin_lss : bin .lss (.int k a) (.int k b) = some (.bool (decide (a < b))) := by simp [bin, intBin]
@[simp] theorem bin_leq : bin .leq (.int k a) (.int k b) = some (.bool (decide (a ≤ b))) := by simp [bin, intBin]
@[simp] theorem bin_gtr : bin .gtr (.int k a) (.int k b) = some (.bool (decide (a > b))) := by simp [bin, intBin]
@[simp] theorem bin_geq : bin .geq (.int k a) (.int k b) = some (.bool (decide (a ≥ b))) := by simp [bin, intBin]
@[simp] theorem bin_shl : bin .shl (.int k a) (.int k' b) = shiftBin .shl k a b := (Eq.refl _).trans rfl
@[simp] theorem bin_shr : bin .shr (.int k a) (.int k' b) = shiftBin .shr k a b := (Eq.refl _).trans rfl
@[simp] theorem bin_and : bin .and (.int k a) (.int k b) = intBits .and k a b := by simp [bin, intBin]
@[simp] theorem bin_or : bin .or (.int k a) (.int k b) = intBits .or k a b := by simp [bin, intBin]
@[simp] theorem bin_xor : bin .xor (.int k a) (.int k b) = intBits .xor k a b := by simp [bin, intBin]
@[simp] theorem bin_andNot : bin .andNot (.int k a) (.int k b) = intBits .andNot k a b := by simp [bin, intBin]
@[simp] theorem bin_str {op : BinOp} {s t : List UInt8} : bin op (.str s) (.str t) = strBin op s t := by cases op <;> rfl
@[simp] theorem strBin_eql {s t : List UInt8} : strBin .eql s t = some (.bool (decide (s = t))) := by simp [strBin]; by_cases h : s = t <;> simp [h]
@[simp] theorem strBin_neq {s t : List UInt8} : strBin .neq s t = some (.bool (decide (s ≠ t))) := by simp [strBin]; by_cases h : s = t <;> simp [h]
@[simp] theorem binBool_eql {x y : Bool} : binBool .eql (.bool x) (.bool y) = some (.bool (x == y)) := (Eq.refl _).trans rfl
@[simp] theorem binBool_neq {x y : Bool} : binBool .neq (.bool x) (.bool y) = some (.bool (!(x == y))) := (Eq.refl _).trans rfl
@[simp] theorem unOp_not {x : Bool} : unOp .not (.bool x) = some (.bool (!x)) := (Eq.refl _).trans rfl
@[simp] theorem unOp_neg : unOp .neg (.int k a) = some (.int k (k.wrap (0 - a))) := (Eq.refl _).trans rfl
@[simp] theorem cvInt_int : cvInt k (.int k' a) = some (.int k (k.wrap a)) := (Eq.refl _).trans rfl
@[simp] theorem cvStr_str {s : List UInt8} : cvStr (.str s) = some (.str s) := (Eq.refl _).trans rfl

@[simp] theorem condV_true {x y : Option R} : condV (.bool true) x y = x := (Eq.refl _).trans rfl
@[simp] theorem condV_false {x y : Option R} : condV (.bool false) x y = y := (Eq.refl _).trans rfl
@[simp low] theorem condV_bool {c : Bool} {x y : Option R} : condV (.bool c) x y = if c = true then x else y := by cases c <;> rfl
@[simp] theorem pickV_bool {c : Bool} {x y : AV} : pickV (.bool c) x y = some (if c = true then x else y) := by cases c <;> rfl
@[simp] theorem retOr_ret {v : AV} {kp kv : AV → R} : retOr (.ret v) kp kv = kv v := (Eq.refl _).trans rfl
@[simp] theorem exTuple_eq {vs : List AV} {j : Nat} : exTuple j (.tuple vs) = vs[j]? := (Eq.refl _).trans rfl
@[simp] theorem nilOk_ptr {i o : Nat} : nilOk (.ptr i o) = some (.ptr i o) := (Eq.refl _).trans rfl
@[simp] theorem nilOk_rptr {cs : List AV} {o : Nat} : nilOk (.rptr cs o) = some (.rptr cs o) := (Eq.refl _).trans rfl
@[simp] theorem fAddr_ptr {off i o : Nat} : fAddr off (.ptr i o) = some (.ptr i (o + off)) := (Eq.refl _).trans rfl
@[simp] theorem fAddr_rptr {off o : Nat} {cs : List AV} : fAddr off (.rptr cs o) = some (.rptr cs (o + off)) := (Eq.refl _).trans rfl
@[simp] theorem fCell_agg {off : Nat} {cs : List AV} : fCell off (.agg cs) = cs[off]? := (Eq.refl _).trans rfl
@[simp] theorem fAgg_agg {off n : Nat} {cs : List AV} : fAgg off n (.agg cs) = aggAt n cs off := (Eq.refl _).trans rfl
@[simp] theorem ldCell_rptr {cs : List AV} {o : Nat} : ldCell h (.rptr cs o) = cs[o]? := (Eq.refl _).trans rfl
@[simp] theorem ldAgg_rptr {cs : List AV} {o n : Nat} : ldAgg n h (.rptr cs o) = aggAt n cs o := (Eq.refl _).trans rfl
theorem aggAt_all {n : Nat} {cs : List AV} (hn : cs.length = n) : aggAt n cs 0 = some (.agg cs) := by simp [aggAt, ← hn]
@[simp] theorem lnSl_list {rows : List (List AV)} {o : Own} : lnSl (.list rows o) = some (.int .i64 rows.length) := (Eq.refl _).trans rfl
@[simp] theorem lnStr_str {s : List UInt8} : lnStr (.str s) = some (.int .i64 s.length) := (Eq.refl _).trans rfl

@[simp] theorem canon_bool {x : Bool} : AV.canon (.bool x) = .bool x := (Eq.refl _).trans rfl
@[simp] theorem canon_int : AV.canon (.int k a) = .int k a := (Eq.refl _).trans rfl
@[simp] theorem canon_str {s : List UInt8} : AV.canon (.str s) = .str s := (Eq.refl _).trans rfl
@[simp] theorem canon_list {rows : List (List AV)} {o : Own} : AV.canon (.list rows o) = .list rows .no := (Eq.refl _).trans rfl
@[simp] theorem canon_ptr {i o : Nat} : AV.canon (.ptr i o) = .ptr i o := (Eq.refl _).trans rfl
@[simp] theorem canon_agg {cs : List AV} : AV.canon (.agg cs) = .agg (cs.map AV.canonCell) := (Eq.refl _).trans rfl
@[simp] theorem canonCell_bool {x : Bool} : AV.canonCell (.bool x) = .bool x := (Eq.refl _).trans rfl
@[simp] theorem canonCell_int : AV.canonCell (.int k a) = .int k a := (Eq.refl _).trans rfl
@[simp] theorem canonCell_str {s : List UInt8} : AV.canonCell (.str s) = .str s := (Eq.refl _).trans rfl
@[simp] theorem canonCell_list {rows : List (List AV)} {o : Own} : AV.canonCell (.list rows o) = .list rows .no := (Eq.refl _).trans rfl
@[simp] theorem copy_bool {x : Bool} : AV.copy (.bool x) = .bool x := (Eq.refl _).trans rfl
@[simp] theorem copy_int : AV.copy (.int k a) = .int k a := (Eq.refl _).trans rfl
@[simp] theorem copy_str {s : List UInt8} : AV.copy (.str s) = .str s := (Eq.refl _).trans rfl
@[simp] theorem copy_ptr {i o : Nat} : AV.copy (.ptr i o) = .ptr i o := (Eq.refl _).trans rfl
@[simp] theorem copy_agg {cs : List AV} : AV.copy (.agg cs) = .agg (cs.map AV.copyCell) := (Eq.refl _).trans rfl
@[simp] theorem copy_no {rows : List (List AV)} : AV.copy (.list rows .no) = .list rows .no := (Eq.refl _).trans rfl
@[simp] theorem copy_cap {rows : List (List AV)} : AV.copy (.list rows .cap) = .list rows .cap := (Eq.refl _).trans rfl
@[simp] theorem copy_own {rows : List (List AV)} {s : Nat} : AV.copy (.list rows (.own s)) = .list rows .no := (Eq.refl _).trans rfl
@[simp] theorem copyCell_bool {x : Bool} : AV.copyCell (.bool x) = .bool x := (Eq.refl _).trans rfl
@[simp] theorem copyCell_int : AV.copyCell (.int k a) = .int k a := (Eq.refl _).trans rfl
@[simp] theorem copyCell_str {s : List UInt8} : AV.copyCell (.str s) = .str s := (Eq.refl _).trans rfl
@[simp] theorem copyCell_no {rows : List (List AV)} : AV.copyCell (.list rows .no) = .list rows .no := (Eq.refl _).trans rfl
@[simp] theorem copyCell_cap {rows : List (List AV)} : AV.copyCell (.list rows .cap) = .list rows .cap := (Eq.refl _).trans rfl
@[simp] theorem copyCell_own {rows : List (List AV)} {s : Nat} : AV.copyCell (.list rows (.own s)) = .list rows .no := (Eq.refl _).trans rfl
@[simp] theorem copyCell_func {f : Fn} : AV.copyCell (.func f [] []) = .func f [] [] := (Eq.refl _).trans rfl
@[simp] theorem copy_func {f : Fn} : AV.copy (.func f [] []) = .func f [] [] := (Eq.refl _).trans rfl
@[simp] theorem canon_func {f : Fn} : AV.canon (.func f [] []) = .func f [] [] := (Eq.refl _).trans rfl

attribute [simp] AV.pure pureL pureR
@[simp] theorem pureR_append : ∀ (x y : List (List AV)), pureR (x ++ y) = (pureR x && pureR y)
  | [], y => by simp
  | r :: x, y => by simp [pureR, pureR_append x y, Bool.and_assoc]
@[simp] theorem pureR_map {α : Type} {f : α → List AV} {l : List α} (hf : ∀ x, pureL (f x) = true) : pureR (l.map f) = true := by
  induction l with
  | nil => rfl
  | cons x l ih => simp [pureR, hf, ih]

@[simp] theorem bx_one {v : AV} (hv : v.cells.all AV.one = true) : bx h v = some (.ptr h.length 0, h ++ [.arr v.cells false]) := by simp only [bx, hv, if_true]

def objCell (o : Nat) : Option AObj → Option AV
  | some (.arr cs _) => cs[o]?
  | _ => none
def objAgg (n o : Nat) : Option AObj → Option AV
  | some (.arr cs _) => aggAt n cs o
  | _ => none
def objSet (n o : Nat) (h : H) (i : Nat) (v : AV) : Option AObj → Option (AV × H)
  | some (.arr cs false) => if v.cells.length = n ∧ v.cells.all AV.one then (splice cs o v).map fun cs => (.undef, h.set i (.arr cs false)) else none
  | _ => none
def objMap : Option AObj → Option (List (AV × AV))
  | some (.map es) => some es
  | _ => none
@[simp] theorem ldCell_ptr {i o : Nat} : ldCell h (.ptr i o) = objCell o h[i]? := by
  simp only [ldCell, cellsAt, cellAt]
  generalize h[i]? = x
  rcases x with _ | x
  · rfl
  · cases x <;> rfl
@[simp] theorem ldAgg_ptr {i o n : Nat} : ldAgg n h (.ptr i o) = objAgg n o h[i]? := by
  simp only [ldAgg, cellsAt]
  generalize h[i]? = x
  rcases x with _ | x
  · rfl
  · cases x <;> rfl
@[simp] theorem stN_ptr {i o n : Nat} {v : AV} : stN n h (.ptr i o) v = objSet n o h i v h[i]? := by
  simp only [stN]
  generalize h[i]? = x
  rcases x with _ | x
  · rfl
  · rcases x with ⟨cs, ro⟩ | _ | _
    · cases ro <;> rfl
    · rfl
    · rfl
@[simp] theorem mapEs_map {i : Nat} : mapEs h (.map i) = objMap h[i]? := by
  simp only [mapEs]
  generalize h[i]? = x
  rcases x with _ | x
  · rfl
  · cases x <;> rfl
@[simp] theorem objCell_arr {o : Nat} {cs : List AV} {ro : Bool} : objCell o (some (.arr cs ro)) = cs[o]? := (Eq.refl _).trans rfl
@[simp] theorem objAgg_arr {n o : Nat} {cs : List AV} {ro : Bool} : objAgg n o (some (.arr cs ro)) = aggAt n cs o := (Eq.refl _).trans rfl
@[simp] theorem objMap_map {es : List (AV × AV)} : objMap (some (.map es)) = some es := (Eq.refl _).trans rfl
@[simp] theorem objSet_arr {n o i : Nat} {v : AV} {cs : List AV} : objSet n o h i v (some (.arr cs false)) = if v.cells.length = n ∧ v.cells.all AV.one then (splice cs o v).map fun cs => (.undef, h.set i (.arr cs false)) else none := (Eq.refl _).trans rfl

@[simp] theorem one_bool {x : Bool} : AV.one (.bool x) = true := (Eq.refl _).trans rfl
@[simp] theorem cells_bool {x : Bool} : AV.cells (.bool x) = [.bool x] := (Eq.refl _).trans rfl
@[simp] theorem one_int  : AV.one (.int k a) = true := (Eq.refl _).trans rfl
@[simp] theorem cells_int  : AV.cells (.int k a) = [.int k a] := (Eq.refl _).trans rfl
@[simp] theorem one_str {s : List UInt8} : AV.one (.str s) = true := (Eq.refl _).trans rfl
@[simp] theorem cells_str {s : List UInt8} : AV.cells (.str s) = [.str s] := (Eq.refl _).trans rfl
@[simp] theorem one_list {rows : List (List AV)} {o : Own} : AV.one (.list rows o) = true := (Eq.refl _).trans rfl
@[simp] theorem cells_list {rows : List (List AV)} {o : Own} : AV.cells (.list rows o) = [.list rows o] := (Eq.refl _).trans rfl
@[simp] theorem one_ptr {i o : Nat} : AV.one (.ptr i o) = true := (Eq.refl _).trans rfl
@[simp] theorem cells_ptr {i o : Nat} : AV.cells (.ptr i o) = [.ptr i o] := (Eq.refl _).trans rfl
@[simp] theorem one_rptr {cs : List AV} {o : Nat} : AV.one (.rptr cs o) = true := (Eq.refl _).trans rfl
@[simp] theorem cells_rptr {cs : List AV} {o : Nat} : AV.cells (.rptr cs o) = [.rptr cs o] := (Eq.refl _).trans rfl
@[simp] theorem one_nilPtr  : AV.one AV.nilPtr = true := (Eq.refl _).trans rfl
@[simp] theorem cells_nilPtr  : AV.cells AV.nilPtr = [AV.nilPtr] := (Eq.refl _).trans rfl
@[simp] theorem one_func {f : Fn} {x y : List AV} : AV.one (.func f x y) = true := (Eq.refl _).trans rfl
@[simp] theorem cells_func {f : Fn} {x y : List AV} : AV.cells (.func f x y) = [.func f x y] := (Eq.refl _).trans rfl
@[simp] theorem one_nilFunc  : AV.one AV.nilFunc = true := (Eq.refl _).trans rfl
@[simp] theorem cells_nilFunc  : AV.cells AV.nilFunc = [AV.nilFunc] := (Eq.refl _).trans rfl
@[simp] theorem one_nilMap  : AV.one AV.nilMap = true := (Eq.refl _).trans rfl
@[simp] theorem cells_nilMap  : AV.cells AV.nilMap = [AV.nilMap] := (Eq.refl _).trans rfl
@[simp] theorem one_map {i : Nat} : AV.one (.map i) = true := (Eq.refl _).trans rfl
@[simp] theorem cells_map {i : Nat} : AV.cells (.map i) = [.map i] := (Eq.refl _).trans rfl
@[simp] theorem one_slc {i o n s : Nat} : AV.one (.slc i o n s) = true := (Eq.refl _).trans rfl
@[simp] theorem cells_slc {i o n s : Nat} : AV.cells (.slc i o n s) = [.slc i o n s] := (Eq.refl _).trans rfl
@[simp] theorem one_iface {t : TypeId} {v : AV} : AV.one (.iface t v) = true := (Eq.refl _).trans rfl
@[simp] theorem cells_iface {t : TypeId} {v : AV} : AV.cells (.iface t v) = [.iface t v] := (Eq.refl _).trans rfl
@[simp] theorem one_nilIface  : AV.one AV.nilIface = true := (Eq.refl _).trans rfl
@[simp] theorem cells_nilIface  : AV.cells AV.nilIface = [AV.nilIface] := (Eq.refl _).trans rfl
@[simp] theorem cells_agg {cs : List AV} : AV.cells (.agg cs) = cs := (Eq.refl _).trans rfl

@[simp] theorem bx_agg {cs : List AV} (hv : cs.all AV.one = true) : bx h (.agg cs) = some (.ptr h.length 0, h ++ [.arr cs false]) := bx_one hv

/-- Whole numbers that fit. -/
theorem wrap_i64 {z : Int} (h1 : -9223372036854775808 ≤ z) (h2 : z ≤ 9223372036854775807) : IntKind.wrap .i64 z = z := by
  simp [IntKind.wrap, IntKind.bits, IntKind.signed]; omega
theorem wrap_u8 {z : Int} (h1 : 0 ≤ z) (h2 : z ≤ 255) : IntKind.wrap .u8 z = z := by
  simp [IntKind.wrap, IntKind.bits, IntKind.signed]; omega
theorem wrap_u64 {z : Int} (h1 : 0 ≤ z) (h2 : z ≤ 18446744073709551615) : IntKind.wrap .u64 z = z := by
  simp [IntKind.wrap, IntKind.bits, IntKind.signed]; omega
theorem wrap_i32 {z : Int} (h1 : -2147483648 ≤ z) (h2 : z ≤ 2147483647) : IntKind.wrap .i32 z = z := by
  simp [IntKind.wrap, IntKind.bits, IntKind.signed]; omega

section
variable {α : Type} {f : α → List AV} {l : List α} {o : Own} {s : Nat}

theorem ixSlice_map {i : Nat} (hi : i < l.length) (hs : ∀ x, (f x).length = s) : ixSlice s (.list (l.map f) o) (.int k i) = some (.rptr (f l[i]) 0) := by
  simp [ixSlice, natOf, hs, hi]
@[simp] theorem ixSlice_zero {r : List AV} {rows : List (List AV)} (hr : r.length = s) : ixSlice s (.list (r :: rows) o) (.int k 0) = some (.rptr r 0) := by
  simp [ixSlice, natOf, hr]
theorem slSlice_from {i : Nat} (hi : i ≤ l.length) (hs : ∀ x, (f x).length = s) : slSlice s (.list (l.map f) o) (some (.int k i)) none none = some (.list ((l.drop i).map f) .no) := by
  have : (l.map f).all (·.length == s) = true := by simp [hs]
  simp only [slSlice, bound, natOf, Int.natCast_nonneg, if_true, Int.toNat_natCast, Option.bind_some, List.length_map, hi, this, Nat.le_refl, and_self, List.take_length, List.map_drop]
  rw [show l.length = (l.map f).length by simp, List.take_length]
theorem slSlice_to {i : Nat} (hi : i ≤ l.length) (hs : ∀ x, (f x).length = s) : slSlice s (.list (l.map f) o) none (some (.int k i)) none = some (.list ((l.take i).map f) .no) := by
  have : (l.map f).all (·.length == s) = true := by simp [hs]
  simp only [slSlice, bound, natOf, Int.natCast_nonneg, if_true, Int.toNat_natCast, Option.bind_some, List.length_map, hi, this, Nat.zero_le, and_self, List.drop_zero, List.map_take]
theorem slSlice_both {i j : Nat} (hij : i ≤ j) (hj : j ≤ l.length) (hs : ∀ x, (f x).length = s) : slSlice s (.list (l.map f) o) (some (.int k i)) (some (.int k' j)) none = some (.list (((l.take j).drop i).map f) .no) := by
  have : (l.map f).all (·.length == s) = true := by simp [hs]
  simp only [slSlice, bound, natOf, Int.natCast_nonneg, if_true, Int.toNat_natCast, Option.bind_some, List.length_map, hij, hj, this, and_self, List.map_drop, List.map_take]
theorem slSlice_full {i j : Nat} (hij : i ≤ j) (hj : j ≤ l.length) (hs : ∀ x, (f x).length = s) : slSlice s (.list (l.map f) o) (some (.int k i)) (some (.int k' j)) (some (.int k' j)) = some (.list (((l.take j).drop i).map f) .cap) := by
  have : (l.map f).all (·.length == s) = true := by simp [hs]
  simp only [slSlice, bound, natOf, Int.natCast_nonneg, if_true, Int.toNat_natCast, Option.bind_some, List.length_map, hij, hj, this, and_self, List.map_drop, List.map_take, Option.isSome_some]
theorem slSlice_none {j : Nat} (hj : j ≤ l.length) (hs : ∀ x, (f x).length = s) : slSlice s (.list (l.map f) o) none (some (.int k j)) (some (.int k' j)) = some (.list ((l.take j).map f) .cap) := by
  have : (l.map f).all (·.length == s) = true := by simp [hs]
  simp only [slSlice, bound, natOf, Int.natCast_nonneg, if_true, Int.toNat_natCast, Option.bind_some, List.length_map, hj, this, Nat.zero_le, and_self, List.drop_zero, List.map_take, Option.isSome_some]
/-- An append, where the first one may be written behind. -/
theorem ap_map {l' : List α} {o' : Own} {bytes : Nat} {byte owned : Bool} (ho : mayApp o s owned = true) (h0 : s ≠ 0) (hs : ∀ x, (f x).length = s) (hb : (l.length + l'.length) * bytes ≤ 2 ^ 46) (hl : l.length + l'.length < 2 ^ 46) :
    apSlice s bytes byte owned h (.list (l.map f) o) (.list (l'.map f) o') = some (.list ((l ++ l').map f) (.own s)) := by
  have h1 : (l.map f).all (·.length == s) = true := by simp [hs]
  have h2 : (l'.map f).all (·.length == s) = true := by simp [hs]
  simp only [apSlice, rowsOf, Option.bind_some, List.length_map, ho, h1, h2, ne_eq, h0, not_false_eq_true, hb, hl, and_self, if_true, List.map_append]
@[simp] theorem mayApp_cap {owned : Bool} : mayApp .cap s owned = true := (Eq.refl _).trans rfl
@[simp] theorem mayApp_own : mayApp (.own s) s true = true := by simp [mayApp]
end
end
end Go.Ve

/- VE: slices.Clone. -/
namespace Go.Ve
open Go

section
variable {P : Program}

def noCall : Cl := fun _ _ _ => none
theorem noCall_ok : CallOk P noCall := by intro f args h r he; cases he

/-- A body says what a function is, also where what is known of its arguments differs from case to case. -/
theorem ext_body {A : FAnn} {f : FuncId} {fn : Func} {an : Ann} {c : Code} (hmix : P.follows .mixedOrders = true) (hf : P.funcs[f]? = some fn) (hb : fn.body = some c) (hok : resOk fn = true) (hq : A.q = []) {e : List AV → H → Option (AEnd × H)}
    (hc : ∀ args h r, e args h = some r → ∀ (vals : Array Value) (w : World) (g : Gh), HR w g h → ArgsRep w g args vals →
      ∃ args' v v' h' n, r = (.ret v, h') ∧ ArgsRep w g args' vals ∧ args'.length ≤ fn.ntmps ∧ retOk fn (.ret v') = true ∧ body P A noCall fn an n c args' h = some (.ret v', h') ∧
        ∀ (w' : World) (g' : Gh) u, Rep w' g' (fun p c => some (.res p c)) v' u → Rep w' g' (fun p c => some (.res p c)) v u) : ExtOk P f e := by
  intro args h r he vals w g hH ha
  obtain ⟨args', v, v', h', n, rfl, ha', hle, hro, hrun, hw⟩ := hc args h r he vals w g hH ha
  refine .inl ⟨callFunc_enter hf hb hok vals, ?_⟩
  refine (body_sound noCall_ok hf hb hmix (by rw [hq]; simp) hok hle hro hrun hH.strip ha'.strip).mono fun e w' hp => ?_
  have hp2 := hp.toCPost hH
  cases e with
  | returned u =>
    obtain ⟨y, g', h1, ev, hH', keep, hr⟩ := hp2
    cases h1
    exact ⟨v, g', rfl, ev, hH', keep, hw w' g' u hr⟩
  | panicked ch => obtain ⟨y, u, g', h1, _⟩ := hp2; cases h1
  | outgrown => exact hp2.elim

/-- slices.Clone. -/
def cloneE (s bytes : Nat) : List AV → H → Option (AEnd × H)
  | [.list rows _], h => if rows.all (·.length == s) ∧ rows.length * bytes ≤ 2 ^ 46 ∧ rows.length < 2 ^ 46 then some (.ret (.list rows (.own s)), h) else none
  | _, _ => none

theorem argsRep_one {w : World} {g : Gh} {x : AV} {vals : Array Value} (ha : ArgsRep w g [x] vals) : ∃ u, vals = #[u] ∧ Rep w g wh0 x u := by
  obtain ⟨h1, h2⟩ := ha
  obtain ⟨l⟩ := vals
  match l, h1 with
  | [u], _ => exact ⟨u, rfl, h2 0 x u rfl rfl⟩
theorem argsRep_mk1 {w : World} {g : Gh} {x : AV} {u : Value} (h : Rep w g wh0 x u) : ArgsRep w g [x] #[u] := by
  refine ⟨rfl, fun j y v hy hv => ?_⟩
  cases j with
  | zero => simp at hy hv; subst hy; subst hv; exact h
  | succ j => simp at hy

theorem cloneE_ok {A : FAnn} {f : FuncId} {fn : Func} {an : Ann} {c : Code} (hmix : P.follows .mixedOrders = true) (hf : P.funcs[f]? = some fn) (hb : fn.body = some c) (hok : resOk fn = true) (hq : A.q = []) (hnt : 1 ≤ fn.ntmps) {s bytes : Nat} {byte : Bool} {z : List AV} (hs : s ≠ 0)
    (hbody : ∀ x0 h, body P A noCall fn an 0 c [x0] h = (slNil false x0).bind fun v1 => condV v1 (some (.ret (.list [] .cap), h)) ((mkRows s z 0 []).bind fun v2 => (apSlice s bytes byte false h v2 x0).bind fun v3 => some (.ret v3, h))) : ExtOk P f (cloneE s bytes) := by
  refine ext_body (an := an) hmix hf hb hok hq ?_
  intro args h r he vals w g hH ha
  unfold cloneE at he
  split at he
  · rename_i h' rows o
    split at he
    · rename_i hc
      obtain ⟨hall, hby, hlen⟩ := hc
      cases he
      obtain ⟨u, rfl, hr⟩ := argsRep_one ha
      have app : ∀ o', apSlice s bytes byte false h (.list [] .cap) (.list rows o') = some (.list rows (.own s)) := by
        intro o'
        simp only [apSlice, rowsOf, Option.bind_some, mayApp, hall, List.all_nil, List.length_nil, Nat.zero_add, ne_eq, hs, not_false_eq_true, hby, hlen, and_self, if_true, List.nil_append]
      cases hrows : rows with
      | cons r0 rs =>
        refine ⟨[.list rows o], .list (r0 :: rs) (.own s), .list (r0 :: rs) (.own s), h, 0, rfl, ha, by simpa using hnt, rfl, ?_, fun _ _ _ hr => hr⟩
        rw [hbody, hrows]
        rw [hrows] at app
        simp only [slNil, Option.bind_some, condV, Bool.false_eq_true, if_false]
        show ((mkRows s z 0 []).bind fun v2 => (apSlice s bytes byte false h v2 (.list (r0 :: rs) o)).bind fun v3 => some (AEnd.ret v3, h)) = _
        rw [show mkRows s z 0 [] = some (.list [] .cap) from rfl]
        simp only [Option.bind_some, app]
      | nil =>
        subst hrows
        cases hr with
        | @list _ _ _ a n cp b off s' fv hn hnc hne hl h1 h2 hroom =>
          cases a with
          | none =>
            refine ⟨[.list [] .nil], .list [] (.own s), .list [] .cap, h, 0, rfl, argsRep_mk1 (.list b off s' fv hn hnc hne hl h1 h2 rfl), by simpa using hnt, rfl, ?_, ?_⟩
            · rw [hbody]; rfl
            · intro w' g' u hr
              cases hr with
              | list b off s' fv hn hnc hne hl h1 h2 hroom => exact .list b off s' fv hn hnc hne hl h1 h2 (fun _ _ => .inl hroom)
          | some a =>
            refine ⟨[.list [] .mem], .list [] (.own s), .list [] (.own s), h, 0, rfl, argsRep_mk1 (.list b off s' fv hn hnc hne hl h1 h2 (by show some a ≠ none; simp)), by simpa using hnt, rfl, ?_, fun _ _ _ hr => hr⟩
            rw [hbody]
            simp only [slNil, Option.bind_some, condV, Bool.false_eq_true, if_false]
            show ((mkRows s z 0 []).bind fun v2 => (apSlice s bytes byte false h v2 (.list [] .mem)).bind fun v3 => some (AEnd.ret v3, h)) = _
            rw [show mkRows s z 0 [] = some (.list [] .cap) from rfl]
            simp only [Option.bind_some, app]
    · cases he
  · cases he
end

/-- A function whose meaning is taken from elsewhere. -/
theorem den_ext {P : Program} {pol : Pol} {f : FuncId} {e : List AV → H → Option (AEnd × H)} {args : List AV} {h : H} {r : AEnd × H} (hx : pol.ext f = some e) (he : e args h = some r) : den P pol f args h = some r := by
  refine den_iff.2 ⟨1, fun m hm => ?_⟩
  obtain ⟨q, rfl⟩ : ∃ q, m = q + 1 := ⟨m - 1, by omega⟩
  unfold acall
  simp only [hx, he]
end Go.Ve

/- VE: what is reckoned with some fuel is so. -/
namespace Go.Ve
open Go

theorem acall_den {P : Program} {pol : Pol} : ∀ (n : Nat) (f : FuncId) (args : List AV) (h : H) (r : AEnd × H), acall P pol n f args h = some r → den P pol f args h = some r
  | 0, f, args, h, r, he => by simp [acall] at he
  | n + 1, f, args, h, r, he => by
    unfold acall at he
    cases hx : pol.ext f with
    | some e => rw [hx] at he; exact den_ext hx he
    | none =>
      rw [hx] at he
      simp only at he
      split at he
      · cases he
      · rename_i fn hf
        split at he
        · cases he
        · rename_i c hb
          split at he
          · rename_i hok
            have cc : CC (acall P pol n) (fun _ => den P pol) := fun f args h r hr => .of fun _ => acall_den n f args h r hr
            by_cases hm : pol.mode f = 0
            · have key : ∃ m, retChk fn (pureCall (body P (pol.ann f).1 (den P pol) fn (pol.ann f).2 m c) args h) = some r := by
                rw [if_pos hm] at he
                unfold retChk pureCall at he ⊢
                cases hmm : args.mapM (AV.freeze h) with
                | none => rw [hmm] at he; simp at he
                | some xs =>
                  rw [hmm] at he
                  simp only at he ⊢
                  cases hp : pureL xs with
                  | false => rw [hp] at he; simp at he
                  | true =>
                    rw [hp] at he
                    simp only [if_true] at he ⊢
                    cases hbd : body P (pol.ann f).1 (acall P pol n) fn (pol.ann f).2 n c xs [] with
                    | none => rw [hbd] at he; simp at he
                    | some r0 =>
                      rw [hbd] at he
                      obtain ⟨N, hN⟩ := body_late cc hbd
                      exact ⟨N, by rw [hN N (Nat.le_refl _)]; exact he⟩
              obtain ⟨m, hk⟩ := key
              exact den_pure hx hf hb hm hok m hk
            · have key : ∃ m, retChk fn (body P (pol.ann f).1 (den P pol) fn (pol.ann f).2 m c args h) = some r := by
                rw [if_neg hm] at he
                unfold retChk at he ⊢
                cases hbd : body P (pol.ann f).1 (acall P pol n) fn (pol.ann f).2 n c args h with
                | none => rw [hbd] at he; simp at he
                | some r0 =>
                  rw [hbd] at he
                  obtain ⟨N, hN⟩ := body_late cc hbd
                  exact ⟨N, by rw [hN N (Nat.le_refl _)]; exact he⟩
              obtain ⟨m, hk⟩ := key
              exact den_here hx hf hb hm hok m hk
          · cases he

/-- A function by value does not look at the heap, where its arguments are pure. -/
theorem den_any {P : Program} {pol : Pol} {f : FuncId} (hf : pol.still f = true) {args : List AV} {e : AEnd} {h' : H} (he : den P pol f args [] = some (e, h')) (h : H) : den P pol f args h = some (e, h) := by
  have he2 := den_iff.1 he
  refine den_iff.2 (he2.imp fun m hm => ?_)
  have := (acall_still hf m args [] e h' hm).2 h
  simpa using this
end Go.Ve

/- VE: a law's row out of its value. -/
namespace Go.Ve
open Go Go.ChangeShapes Go.RowKit

/-- Arguments of types of plain data. -/
def ShapeVs (P : Program) (n : Nat) : List TypeId → List AV → Prop
  | [], [] => True
  | t :: ts, v :: vs => ShapeV P n t v ∧ ShapeVs P n ts vs
  | _, _ => False

section
variable {P : Program} {H : Type} {enc : TypeId × Value → H}

theorem trodAll_len {w : World} {b : Nat} {sp : Nat → Bool} {hd : Bool} : ∀ {ts : List TypeId} {vs : List Value} {ds : List (DataW H)} {ps : List MemPlace}, DataW.TrodAll enc P w b sp hd ts vs ds ps → vs.length = ts.length ∧ ds.length = ts.length
  | [], vs, ds, ps, h => by obtain ⟨rfl, rfl, rfl⟩ := trodAll_nil h; exact ⟨rfl, rfl⟩
  | t :: ts, vs, ds, ps, h => by
    obtain ⟨v, vs', d, ds', p, q, rfl, rfl, rfl, _, h2⟩ := trodAll_cons h
    have := trodAll_len h2
    simp [this.1, this.2]

theorem read_args {W : World} {n base : Nat} {r : Reach} : ∀ (ts : List TypeId) (vs : List Value) (ds : List (DataW H)) (ps : List MemPlace), ts.all (plainT P n) = true →
    (∀ (j : Nat) t v, ts[j]? = some t → vs[j]? = some v → Value.okWide P W r base t v) → DataW.TrodAll enc P W 0 (fun _ => true) true ts vs ds ps →
    ∃ avs, ShapeVs P n ts avs ∧ ArgsL W (gOld W) avs vs
  | [], vs, ds, ps, _, _, h => by obtain ⟨rfl, rfl, rfl⟩ := trodAll_nil h; exact ⟨[], trivial, trivial⟩
  | t :: ts, vs, ds, ps, hp, hv, h => by
    obtain ⟨v, vs', d, ds', p, q, rfl, rfl, rfl, h1, h2⟩ := trodAll_cons h
    rw [List.all_cons, Bool.and_eq_true] at hp
    obtain ⟨avs, a1, a2⟩ := read_args ts vs' ds' q hp.2 (fun j t' v' ht hv' => hv (j + 1) t' v' (by simpa using ht) (by simpa using hv')) h2
    have hst : ∀ b k, b < W.heap.size → (gOld W).st b k := fun b k hb => hb
    have hv0 := hv 0 t v rfl rfl
    obtain ⟨av, b1, b2⟩ := read_arg (g := gOld W) hst hp.1 hv0 h1
    exact ⟨av :: avs, ⟨b1, a1⟩, b2, a2⟩

theorem trod_back (hl : laidOutB P = true) {W W' : World} (hb : Below W.heap.size W W') : ∀ (ts : List TypeId) (vs : List Value) (ds : List (DataW H)) (ps : List MemPlace),
    ts.all (fun t => P.readableRec t && decide (t < P.types.size)) = true → DataW.TrodAll enc P W 0 (fun _ => true) true ts vs ds ps →
    DataW.TrodAll enc P W' 0 (fun b => decide (b < W.heap.size)) true ts vs ds ps
  | [], vs, ds, ps, _, h => by obtain ⟨rfl, rfl, rfl⟩ := trodAll_nil h; exact trodAll_mk0
  | t :: ts, vs, ds, ps, hp, h => by
    obtain ⟨v, vs', d, ds', p, q, rfl, rfl, rfl, h1, h2⟩ := trodAll_cons h
    rw [List.all_cons, Bool.and_eq_true, Bool.and_eq_true, decide_eq_true_eq] at hp
    refine trodAll_cons_mk (Below.trod hl hp.1.1 hp.1.2 h1 hb ?_) (trod_back hl hb ts vs' ds' q hp.2 h2)
    obtain ⟨m, hm⟩ := h1
    exact DataW.trod_lt m _ _ _ hm

/-- What a law's row asks of its function. -/
structure LawOk (P : Program) (f : FuncId) (fn : Func) (c : Code) (rt : TypeId) : Prop where
  hl : laidOutB P = true
  hf : P.funcs[f]? = some fn
  hb : fn.body = some c
  hok : resOk fn = true
  hp : fn.params.toList.all (plainT P 50) = true
  hr : fn.params.toList.all (fun t => P.readableRec t && decide (t < P.types.size)) = true
  res : fn.resultTypes.toList = [rt]
  bool : P.underlying rt = some .bool

theorem law_contract {f : FuncId} {fn : Func} {c : Code} {rt : TypeId} {s : ChangeSpec} {pol : Pol} (hpol : PolOk P pol) (ok : LawOk P f fn c rt)
    (hs : ∀ ds : List (DataW H), ds.length = fn.params.toList.length → s.fn H ds = { results := [.lit (.bool true)], args := ds }) (hv : s.vars = []) {W : World} {base : Nat} {args : Array Value} {ds gs : List (DataW H)} {before : List MemPlace}
    (law : ∀ avs, ShapeVs P 50 fn.params.toList avs → ∃ h', den P pol f avs [] = some (.ret (.bool true), h'))
    (hval : ∀ (j : Nat) t v, fn.params[j]? = some t → args[j]? = some v → Value.okWide P W .any base t v) (hW : DataW.Whole enc P fn.params.toList s.vars false W args.toList ds gs before) :
    Calls P f args W fun e W' => ∃ v, e = .returned v ∧ s.post enc P fn false true false false W args v W' := by
  have hW' := hW
  obtain ⟨p, q, hA, hV, rfl, hfz, hnd⟩ := hW
  rw [hv] at hV
  obtain ⟨rfl, rfl⟩ := trodVars_none hV
  obtain ⟨avs, h1, h2⟩ := read_args fn.params.toList args.toList ds p ok.hp (fun j t v ht hv => hval j t v (by rw [← Array.getElem?_toList]; exact ht) (by rw [← Array.getElem?_toList]; exact hv)) hA
  refine (law_calls hpol ok.hf ok.hb ok.hok h2 (law avs h1)).mono fun e W' ⟨he, bel⟩ => ?_
  subst he
  have e1 := hs (ds ++ []) (by rw [List.append_nil]; exact (trodAll_len hA).2)
  refine ⟨_, rfl, ds, [], _, [], p, [], hW', ?_, ?_, ?_, bel.frame _, fun h => by cases h⟩
  · rw [e1, ok.res]
    have e2 : fn.resultTypes.size = 1 := by rw [← Array.length_toList, ok.res]; rfl
    rw [e2]
    exact trodAll_mk1 (shut_bool ok.bool _)
  · rw [e1, List.append_nil]
    exact trod_back ok.hl bel _ _ _ _ ok.hr hA
  · rw [e1, hv]
    rfl
end

section
variable {P : Program} {n : Nat} {t : TypeId}
theorem shapeV_one {v : AV} (ha : isAgg P t = false) (h : ShapeV P n t v) : Shape P n t [v] := by
  unfold ShapeV at h
  rw [ha] at h
  exact h
theorem shapeV_agg {v : AV} (ha : isAgg P t = true) (h : ShapeV P n t v) : ∃ avs, v = .agg avs ∧ Shape P n t avs := by
  unfold ShapeV at h
  rw [ha] at h
  exact h
theorem shape_slice {e : TypeId} {avs : List AV} (hu : P.underlying t = some (.slice e)) (h : Shape P (n + 1) t avs) : ∃ rows, avs = [.list rows .no] ∧ rows.length ≤ maxLen ∧ ∀ r ∈ rows, Shape P n e r := by
  unfold Shape at h; rw [hu] at h; exact h
theorem shape_struct {fs : Array Field} {avs : List AV} (hu : P.underlying t = some (.struct fs)) (h : Shape P (n + 1) t avs) : ShapeFs (Shape P n) fs.toList avs := by
  unfold Shape at h; rw [hu] at h; exact h
theorem shape_int {k : IntKind} {avs : List AV} (hu : P.underlying t = some (.int k)) (h : Shape P (n + 1) t avs) : ∃ z, avs = [.int k z] ∧ k.min ≤ z ∧ z ≤ k.max := by
  unfold Shape at h; rw [hu] at h; exact h
theorem shape_string {avs : List AV} (hu : P.underlying t = some .string) (h : Shape P (n + 1) t avs) : ∃ s : List UInt8, avs = [.str s] ∧ s.length ≤ maxLen := by
  unfold Shape at h; rw [hu] at h; exact h
theorem shape_bool {avs : List AV} (hu : P.underlying t = some .bool) (h : Shape P (n + 1) t avs) : ∃ b, avs = [.bool b] := by
  unfold Shape at h; rw [hu] at h; exact h
/-- Rows of a shape are those of things. -/
theorem rows_map {α : Type} {c : α → List AV} {Q : List AV → Prop} : ∀ {rows : List (List AV)}, (∀ r ∈ rows, Q r) → (∀ r, Q r → ∃ x, r = c x) → ∃ l : List α, rows = l.map c
  | [], _, _ => ⟨[], rfl⟩
  | r :: rs, h, hq => by
    obtain ⟨x, rfl⟩ := hq r (h r (by simp))
    obtain ⟨l, rfl⟩ := rows_map (rows := rs) (fun r' h' => h r' (by simp [h'])) hq
    exact ⟨x :: l, rfl⟩
theorem shapeVs1 {t : TypeId} {avs : List AV} (h : ShapeVs P n [t] avs) : ∃ a, avs = [a] ∧ ShapeV P n t a := by
  match avs, h with
  | [a], ⟨h1, _⟩ => exact ⟨a, rfl, h1⟩
  | [], h => exact h.elim
  | _ :: _ :: _, ⟨_, h⟩ => exact h.elim
theorem shapeVs2 {t u : TypeId} {avs : List AV} (h : ShapeVs P n [t, u] avs) : ∃ a b, avs = [a, b] ∧ ShapeV P n t a ∧ ShapeV P n u b := by
  match avs, h with
  | a :: r, ⟨h1, h2⟩ => obtain ⟨b, rfl, h3⟩ := shapeVs1 h2; exact ⟨a, b, rfl, h1, h3⟩
  | [], h => exact h.elim
theorem shapeVs3 {t u x : TypeId} {avs : List AV} (h : ShapeVs P n [t, u, x] avs) : ∃ a b c, avs = [a, b, c] ∧ ShapeV P n t a ∧ ShapeV P n u b ∧ ShapeV P n x c := by
  match avs, h with
  | a :: r, ⟨h1, h2⟩ => obtain ⟨b, c, rfl, h3⟩ := shapeVs2 h2; exact ⟨a, b, c, rfl, h1, h3⟩
  | [], h => exact h.elim
end
end Go.Ve

/- VE: rows of bytes. -/
namespace Go.Ve
open Go

abbrev BL (l : List UInt8) (o : Own := .no) : AV := .list (l.map byteRow) o
abbrev bv (b : UInt8) : AV := .int .u8 b.toNat
@[simp] theorem byteRow_len (b : UInt8) : (byteRow b).length = 1 := rfl
@[simp] theorem byteRow_pure (b : UInt8) : pureL (byteRow b) = true := rfl
theorem byteRow_0 (b : UInt8) : (byteRow b)[0]? = some (bv b) := rfl
@[simp] theorem BL_pure (l : List UInt8) : pureR (l.map byteRow) = true := pureR_map byteRow_pure
theorem BL_canon (l : List UInt8) (o : Own) : AV.canon (BL l o) = BL l := rfl
theorem BL_len (l : List UInt8) (o : Own) : lnSl (BL l o) = some (.int .i64 l.length) := by simp [BL]
theorem BL_at {k : IntKind} {l : List UInt8} {o : Own} {i : Nat} (hi : i < l.length) : ixSlice 1 (BL l o) (.int k i) = some (.rptr (byteRow l[i]) 0) := ixSlice_map hi byteRow_len
theorem BL_from {k : IntKind} {l : List UInt8} {o : Own} {i : Nat} (hi : i ≤ l.length) : slSlice 1 (BL l o) (some (.int k i)) none none = some (BL (l.drop i)) := slSlice_from hi byteRow_len
theorem BL_to {k : IntKind} {l : List UInt8} {o : Own} {i : Nat} (hi : i ≤ l.length) : slSlice 1 (BL l o) none (some (.int k i)) none = some (BL (l.take i)) := slSlice_to hi byteRow_len
theorem BL_both {k k' : IntKind} {l : List UInt8} {o : Own} {i j : Nat} (hij : i ≤ j) (hj : j ≤ l.length) : slSlice 1 (BL l o) (some (.int k i)) (some (.int k' j)) none = some (BL ((l.take j).drop i)) := slSlice_both hij hj byteRow_len
theorem BL_app {l l' : List UInt8} {o o' : Own} {owned : Bool} {h : H} (ho : mayApp o 1 owned = true) (hl : l.length + l'.length ≤ 2 ^ 40) : apSlice 1 1 true owned h (BL l o) (BL l' o') = some (BL (l ++ l') (.own 1)) := by
  have := ap_map (h := h) (f := byteRow) (l := l) (l' := l') (o := o) (o' := o') (bytes := 1) (byte := true) (owned := owned) ho (by decide) byteRow_len (by omega) (by omega)
  exact this
theorem BL_str (l : List UInt8) : strBytes (.str l) = some (BL l (.own 1)) := rfl
theorem rowByte_all : ∀ l : List UInt8, (l.map byteRow).mapM rowByte = some l
  | [] => rfl
  | b :: l => by
    rw [List.map_cons, List.mapM_cons, rowByte_all l]
    simp [byteRow, rowByte]
theorem BL_toStr {h : H} (l : List UInt8) (o : Own) : bytesStr h (BL l o) = some (.str l) := by
  show ((l.map byteRow).mapM rowByte).map AV.str = _
  rw [rowByte_all]; rfl
theorem bv_of {z : Int} (h1 : 0 ≤ z) (h2 : z < 256) : AV.int .u8 z = bv (UInt8.ofNat z.toNat) := by
  have : ((UInt8.ofNat z.toNat).toNat : Int) = z := by
    rw [UInt8.toNat_ofNat']
    omega
  rw [bv, this]
theorem bv_nat {n : Nat} (h : n < 256) : AV.int .u8 (n : Int) = bv (UInt8.ofNat n) := by
  rw [bv_of (by omega) (by omega)]; rfl
theorem row1 (b : UInt8) : mkRows 1 [.int .u8 0] 1 [(0, bv b)] = some (BL [b] .cap) := rfl
theorem row4 (a b c d : UInt8) : mkRows 1 [.int .u8 0] 4 [(0, bv a), (1, bv b), (2, bv c), (3, bv d)] = some (BL [a, b, c, d] .cap) := rfl
theorem row0 : mkRows 1 [.int .u8 0] 0 [] = some (BL [] .cap) := rfl

theorem shr_u64 {n k : Nat} (hk : k < 64) : bin .shr (.int .u64 (n : Int)) (.int .u64 (k : Int)) = some (.int .u64 ((n / 2 ^ k : Nat) : Int)) := by
  rw [bin_shr]
  unfold shiftBin
  rw [if_neg (by omega)]
  simp only [IntKind.bits, Int.toNat_natCast, show min k 64 = k by omega]
  rw [show ((2 : Int) ^ k) = ((2 ^ k : Nat) : Int) by simp, Int.ofNat_fdiv]
theorem shr_u32 {n k : Nat} {kk : IntKind} (hk : k < 32) : bin .shr (.int .u32 (n : Int)) (.int kk (k : Int)) = some (.int .u32 ((n / 2 ^ k : Nat) : Int)) := by
  rw [bin_shr]
  unfold shiftBin
  rw [if_neg (by omega)]
  simp only [IntKind.bits, Int.toNat_natCast, show min k 32 = k by omega]
  rw [show ((2 : Int) ^ k) = ((2 ^ k : Nat) : Int) by simp, Int.ofNat_fdiv]
theorem cv_u8 {k : IntKind} (n : Nat) : cvInt .u8 (.int k (n : Int)) = some (bv (UInt8.ofNat n)) := by
  rw [cvInt_int]
  have : IntKind.wrap .u8 (n : Int) = ((n % 256 : Nat) : Int) := by simp [IntKind.wrap, IntKind.bits, IntKind.signed]
  rw [this, bv_nat (Nat.mod_lt _ (by decide))]
  congr 1
  show AV.int .u8 _ = AV.int .u8 _
  congr 2
  rw [UInt8.toNat_ofNat', UInt8.toNat_ofNat']; omega
theorem or_128 (b : UInt8) : bin .or (bv b) (.int .u8 128) = some (bv (UInt8.ofNat (b.toNat % 128 + 128))) := by
  have key : ∀ n : Fin 256, IntKind.wrap .u8 (((BitVec.ofInt 8 (n.val : Int)) ||| (BitVec.ofInt 8 128)).toNat : Int) = ((n.val % 128 + 128 : Nat) : Int) := by decide +kernel
  have h := key ⟨b.toNat, b.toNat_lt⟩
  rw [bin_or]
  show some (AV.int .u8 (IntKind.wrap .u8 (((BitVec.ofInt 8 (b.toNat : Int)) ||| (BitVec.ofInt 8 128)).toNat : Int))) = _
  rw [h, bv_nat (by omega)]

/-- A number's bytes. -/
def lebB (n : Nat) : List UInt8 := if n < 128 then [UInt8.ofNat n] else UInt8.ofNat (n % 128 + 128) :: lebB (n / 128)
termination_by n
decreasing_by omega
theorem lebB_small {n : Nat} (h : n < 128) : lebB n = [UInt8.ofNat n] := by rw [lebB, if_pos h]
theorem lebB_big {n : Nat} (h : ¬ n < 128) : lebB n = UInt8.ofNat (n % 128 + 128) :: lebB (n / 128) := by rw [lebB, if_neg h]
theorem lebB_len : ∀ (m n : Nat), n < 128 ^ (m + 1) → (lebB n).length ≤ m + 1
  | 0, n, h => by rw [lebB_small (by omega)]; simp
  | m + 1, n, h => by
    by_cases hn : n < 128
    · rw [lebB_small hn]; simp
    · rw [lebB_big hn]
      have := lebB_len m (n / 128) (by rw [Nat.pow_succ] at h; omega)
      simp; omega
theorem lebB_10 {n : Nat} (h : n < 2 ^ 64) : (lebB n).length ≤ 10 := lebB_len 9 n (by omega)
theorem lebB_pos (n : Nat) : 0 < (lebB n).length := by
  rw [lebB]; split <;> simp

/-- The number with which bytes begin, how many these are, what is wrong. -/
def lebGo : Nat → Nat → List UInt8 → Nat × Nat × Nat
  | _, _, [] => (0, 0, 10)
  | i, n, b :: l => if (i = 9 ∧ 1 < b.toNat) ∨ (b.toNat = 0 ∧ 0 < i) then (0, 0, 11) else if b.toNat < 128 then (n + 128 ^ i * b.toNat, i + 1, 0) else lebGo (i + 1) (n + 128 ^ i * (b.toNat % 128)) l
def lebG (l : List UInt8) : Nat × Nat × Nat := lebGo 0 0 l
theorem and_not_128 (b : UInt8) : bin .andNot (bv b) (.int .u8 128) = some (.int .u8 ((b.toNat % 128 : Nat) : Int)) := by
  have key : ∀ n : Fin 256, IntKind.wrap .u8 (((BitVec.ofInt 8 (n.val : Int)) &&& ~~~(BitVec.ofInt 8 128)).toNat : Int) = ((n.val % 128 : Nat) : Int) := by decide +kernel
  have h := key ⟨b.toNat, b.toNat_lt⟩
  rw [bin_andNot]
  show some (AV.int .u8 (IntKind.wrap .u8 (((BitVec.ofInt 8 (b.toNat : Int)) &&& ~~~(BitVec.ofInt 8 128)).toNat : Int))) = _
  rw [h]
theorem shl_u64 {a k : Nat} {kk : IntKind} (hk : k ≤ 64) (h : a * 2 ^ k < 2 ^ 64) : bin .shl (.int .u64 (a : Int)) (.int kk (k : Int)) = some (.int .u64 ((a * 2 ^ k : Nat) : Int)) := by
  rw [bin_shl]
  unfold shiftBin
  rw [if_neg (by omega)]
  simp only [IntKind.bits, Int.toNat_natCast, show min k 64 = k by omega]
  rw [show ((a : Int) * 2 ^ k) = ((a * 2 ^ k : Nat) : Int) by simp, wrap_u64 (by omega) (by omega)]
theorem or_add {n a k : Nat} (hn : n < 2 ^ k) (h : a * 2 ^ k + n < 2 ^ 64) : bin .or (.int .u64 (n : Int)) (.int .u64 ((a * 2 ^ k : Nat) : Int)) = some (.int .u64 ((n + 2 ^ k * a : Nat) : Int)) := by
  rw [bin_or]
  show some (AV.int .u64 (IntKind.wrap .u64 ((BitVec.ofInt 64 (n : Int) ||| BitVec.ofInt 64 ((a * 2 ^ k : Nat) : Int)).toNat : Int))) = _
  have e1 : BitVec.ofInt 64 (n : Int) = BitVec.ofNat 64 n := rfl
  have e2 : BitVec.ofInt 64 ((a * 2 ^ k : Nat) : Int) = BitVec.ofNat 64 (a * 2 ^ k) := rfl
  rw [e1, e2, BitVec.toNat_or, BitVec.toNat_ofNat, BitVec.toNat_ofNat, Nat.mod_eq_of_lt (show n < 2 ^ 64 by omega), Nat.mod_eq_of_lt (show a * 2 ^ k < 2 ^ 64 by omega)]
  have e3 : n ||| a * 2 ^ k = n + 2 ^ k * a := by
    rw [Nat.or_comm, Nat.mul_comm a, ← Nat.two_pow_add_eq_or_of_lt hn, Nat.add_comm]
  rw [e3, wrap_u64 (by omega) (by rw [Nat.mul_comm] at h; omega)]
end Go.Ve
