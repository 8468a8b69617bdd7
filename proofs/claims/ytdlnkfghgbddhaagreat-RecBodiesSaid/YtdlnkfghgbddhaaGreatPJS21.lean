/- What the functions of the records' layer come to: 21: what is read of a body, in plain words; the program's takers. -/
import Derived.Test.YtdlnkfghgbddhaaGreatPJS20
set_option linter.all false

open Go Go.Ve Go.Proofs
namespace Go.Proofs.YtdlnkfghgbddhaaGreat
set_option maxRecDepth 100000
set_option linter.all false

theorem rdW_lt (r : Rd) : (rdW r).1 < 2 ^ 32 := by
  unfold rdW
  split
  · exact Nat.two_pow_pos _
  · split
    · exact Nat.two_pow_pos _
    · exact wdN_lt _
def rdA (r : Rd) : Alarm × Rd :=
  (⟨(rdN 1048576 r).1, (rdN 1048576 (rdN 1048576 r).2).1, (rdT 1048576 (rdN 1048576 (rdN 1048576 r).2).2).1, (rdT 1048576 (rdT 1048576 (rdN 1048576 (rdN 1048576 r).2).2).2).1, (rdN 1048576 (rdT 1048576 (rdT 1048576 (rdN 1048576 (rdN 1048576 r).2).2).2).2).1, (rdT 1048576 (rdN 1048576 (rdT 1048576 (rdT 1048576 (rdN 1048576 (rdN 1048576 r).2).2).2).2).2).1⟩,
    (rdT 1048576 (rdN 1048576 (rdT 1048576 (rdT 1048576 (rdN 1048576 (rdN 1048576 r).2).2).2).2).2).2)
def rdS (r : Rd) : (Int × Int) × Rd := (((rdN 1048576 r).1, (rdN 1048576 (rdN 1048576 r).2).1), (rdN 1048576 (rdN 1048576 r).2).2)
def fing (a b : Rd) : Fin 18446744073709551616 := ⟨(rdW a).1 + 4294967296 * (rdW b).1, by have := rdW_lt a; have := rdW_lt b; omega⟩
/-- Behind the kind and the fingerprint. -/
def rdK (k : Int) (r : Rd) : (Alarm × (Int × Int) × List UInt8) × Rd :=
  let a := if k = 1 ∨ k = 5 then rdA r else (.none, r)
  let s := if k = 5 then rdS a.2 else ((0, 0), a.2)
  let n := if k = 2 ∨ k = 5 then rdT 1048576 s.2 else ([], s.2)
  ((a.1, s.1, n.1), n.2)
def rdCh (r : Rd) : Change × Rd :=
  let k := rdN 1048576 r
  let w := rdW k.2
  let z := rdK k.1 (rdW w.2).2
  (⟨k.1, fing k.2 w.2, z.1.1, z.1.2.1.1, z.1.2.1.2, z.1.2.2⟩, z.2)
def rdL : Nat → Rd → List Change × Rd
  | 0, r => ([], r)
  | n + 1, r => if r.e ≠ 0 then ([], r) else ((rdCh r).1 :: (rdL n (rdCh r).2).1, (rdL n (rdCh r).2).2)
/-- The changes of a body; none: it is none's. -/
def changesOf (b : List UInt8) : Option (List Change) :=
  let q := rdN 512 ⟨b, 0, 0⟩
  let l := rdL q.1 q.2
  if (rdE l.2).e = 0 ∧ batch l.1 = true ∧ bodyB l.1 = b then some l.1 else none

theorem rdA_ok {r : Rd} (h : r.ok) : (rdA r).2.ok ∧ (rdA r).1.fit ∧ (rdA r).2.b = r.b := by
  have a1 := rdN_ok (m := 1048576) h
  have a2 := rdN_ok (m := 1048576) a1.1
  have a3 := rdT_ok (m := 1048576) a2.1
  have a4 := rdT_ok (m := 1048576) a3.1
  have a5 := rdN_ok (m := 1048576) a4.1
  have a6 := rdT_ok (m := 1048576) a5.1
  exact ⟨a6.1, ⟨Nat.le_trans a3.2.1 (by decide), Nat.le_trans a4.2.1 (by decide), Nat.le_trans a6.2.1 (by decide)⟩, a6.2.2.trans (a5.2.2.trans (a4.2.2.trans (a3.2.2.trans (a2.2.2.trans a1.2.2))))⟩
theorem rdS_ok {r : Rd} (h : r.ok) : (rdS r).2.ok ∧ (rdS r).2.b = r.b := by
  have a1 := rdN_ok (m := 1048576) h
  have a2 := rdN_ok (m := 1048576) a1.1
  exact ⟨a2.1, a2.2.2.trans a1.2.2⟩
theorem rdK_ok {k : Int} {r : Rd} (h : r.ok) : (rdK k r).2.ok ∧ (rdK k r).1.1.fit ∧ (rdK k r).1.2.2.length ≤ 2 ^ 50 ∧ (rdK k r).2.b = r.b := by
  have hA : ∀ p : Prop, [Decidable p] → ((if p then rdA r else (.none, r)).2.ok ∧ (if p then rdA r else (.none, r)).1.fit ∧ (if p then rdA r else (.none, r)).2.b = r.b) := by
    intro p _
    by_cases hp : p
    · simp only [if_pos hp]; exact rdA_ok h
    · simp only [if_neg hp]; exact ⟨h, ⟨Nat.zero_le _, Nat.zero_le _, Nat.zero_le _⟩, trivial⟩
  have hS : ∀ (p : Prop) (r : Rd), [Decidable p] → r.ok → ((if p then rdS r else ((0, 0), r)).2.ok ∧ (if p then rdS r else ((0, 0), r)).2.b = r.b) := by
    intro p r _ h
    by_cases hp : p
    · simp only [if_pos hp]; exact rdS_ok h
    · simp only [if_neg hp]; exact ⟨h, trivial⟩
  have hT : ∀ (p : Prop) (r : Rd), [Decidable p] → r.ok → ((if p then rdT 1048576 r else ([], r)).2.ok ∧ (if p then rdT 1048576 r else ([], r)).1.length ≤ 2 ^ 50 ∧ (if p then rdT 1048576 r else ([], r)).2.b = r.b) := by
    intro p r _ h
    by_cases hp : p
    · simp only [if_pos hp]; exact ⟨(rdT_ok h).1, Nat.le_trans (rdT_ok h).2.1 (by decide), (rdT_ok h).2.2⟩
    · simp only [if_neg hp]; exact ⟨h, Nat.zero_le _, trivial⟩
  have a := hA (k = 1 ∨ k = 5)
  have s := hS (k = 5) _ a.1
  have n := hT (k = 2 ∨ k = 5) _ s.1
  exact ⟨n.1, a.2.1, n.2.1, n.2.2.trans (s.2.trans a.2.2)⟩
theorem rdCh_ok {r : Rd} (h : r.ok) : (rdCh r).2.ok ∧ (rdCh r).1.entry.fit ∧ (rdCh r).2.b = r.b := by
  have a := rdN_ok (m := 1048576) h
  have b := rdW_ok a.1
  have c := rdW_ok b.1
  have d := rdK_ok (k := (rdN 1048576 r).1) c.1
  exact ⟨d.1, ⟨d.2.1, d.2.2.1⟩, d.2.2.2.trans (c.2.2.trans (b.2.2.trans a.2.2))⟩
theorem rdL_ok : ∀ (n : Nat) {r : Rd}, r.ok → (rdL n r).2.ok ∧ (∀ x ∈ (rdL n r).1, x.entry.fit) ∧ (rdL n r).1.length ≤ n ∧ (rdL n r).2.b = r.b
  | 0, r, h => ⟨h, fun x hx => (nomatch hx), Nat.le_refl _, rfl⟩
  | n + 1, r, h => by
    unfold rdL
    by_cases he : r.e = 0
    · rw [if_neg (by omega)]
      have c := rdCh_ok h
      have ih := rdL_ok n c.1
      exact ⟨ih.1, fun x hx => by
        rcases List.mem_cons.mp hx with hx | hx
        · rw [hx]; exact c.2.1
        · exact ih.2.1 x hx, by simp only [List.length_cons]; have := ih.2.2.1; omega, by rw [ih.2.2.2, c.2.2]⟩
    · rw [if_pos he]
      exact ⟨h, fun x hx => (nomatch hx), Nat.zero_le _, rfl⟩

theorem takeNum_den {h : H} {id : Nat} {r : Rd} (hr : RdAt h id r) (hk : r.ok) : ∃ h', D n_rec_taker_num [.agg [.ptr id 0]] h = some (.ret (.int .i64 (rdN 1048576 r).1), h') ∧ Keep [id] h h' ∧ RdAt h' id (rdN 1048576 r).2 := by
  obtain ⟨G, hG⟩ : ∃ G, G = h ++ [AObj.arr [.ptr id 0] false] := ⟨_, rfl⟩
  have kG : Keep [] h G := hG ▸ Keep.app
  have g : G[h.length]? = some (.arr [.ptr id 0] false) := hG ▸ get_new
  obtain ⟨h', e, k, r'⟩ := cntR_den (m := 1048576) (kG.rd hr (by simp)) hk (by decide)
  refine ⟨h', rec_taker_num.den 1 ?_ rfl, kG.nil.trans k, r'⟩
  rw [rec_taker_num.f_eq (rec_taker_num.fx 1)]
  rw [show AV.copy (.agg [.ptr id 0]) = .agg [.ptr id 0] from rfl, bx_agg (cs := [.ptr id 0]) rfl]
  rw [show (((1048576 : Nat) : Int)) = 1048576 from rfl] at e
  simp only [bind_some', ← hG, fAddr_ptr, ld_at g, ptr0, canon_ptr, canon_int, e, retOr_ret]
theorem takeText_den {h : H} {id : Nat} {r : Rd} (hr : RdAt h id r) (hk : r.ok) : ∃ h', D n_rec_taker_text [.agg [.ptr id 0]] h = some (.ret (.str (rdT 1048576 r).1), h') ∧ Keep [id] h h' ∧ RdAt h' id (rdT 1048576 r).2 := by
  obtain ⟨G, hG⟩ : ∃ G, G = h ++ [AObj.arr [.ptr id 0] false] := ⟨_, rfl⟩
  have kG : Keep [] h G := hG ▸ Keep.app
  have g : G[h.length]? = some (.arr [.ptr id 0] false) := hG ▸ get_new
  obtain ⟨h', e, k, r'⟩ := textR_den (m := 1048576) (kG.rd hr (by simp)) hk (by decide)
  refine ⟨h', rec_taker_text.den 1 ?_ rfl, kG.nil.trans k, r'⟩
  rw [rec_taker_text.f_eq (rec_taker_text.fx 1)]
  rw [show AV.copy (.agg [.ptr id 0]) = .agg [.ptr id 0] from rfl, bx_agg (cs := [.ptr id 0]) rfl]
  rw [show (((1048576 : Nat) : Int)) = 1048576 from rfl] at e
  simp only [bind_some', ← hG, fAddr_ptr, ld_at g, ptr0, canon_ptr, canon_int, e, retOr_ret]
end Go.Proofs.YtdlnkfghgbddhaaGreat
