/- The laws of the batches that are put, and got: they answer true. -/
import Derived.Test.YtdlnkfghgbddhaaGreatPJP1
import Derived.Test.YtdlnkfghgbddhaaGreatPJS34
import Derived.Test.YtdlnkfghgbddhaaGreatPJL
set_option linter.all false

open Go Go.Ve Go.Proofs
namespace Go.Proofs.YtdlnkfghgbddhaaGreat
set_option maxRecDepth 100000
set_option linter.all false

theorem frame_len {b : List UInt8} (h : b.length ≤ 2 ^ 30) : (frame b).length ≤ b.length + 20 := by
  have := txB_len (s := b) (by omega)
  unfold frame
  rw [List.length_append, wdB_len]
  omega
theorem fit_all {l : List Change} {m : Nat} (h : large l m = false) : ∀ x ∈ l, x.entry.fit := fun x hx => Entry.fit_of ((large_fit h).2 x hx)
theorem puts_law (l : List Change) (t : List UInt8) (h : H) : D n_warrantorlaw27_RecPuts [CL l, BL t] h = some (.ret (.bool true), h) := by
  have l5 := large_den l 520 (by decide)
  rw [show (((520 : Nat) : Int)) = 520 from rfl] at l5
  have j1 : ∀ b : Bool, (b = false → large l 520 = false ∧ t.length ≤ 500) → warrantorlaw27_RecPuts.j1 (warrantorlaw27_RecPuts.JD 1) (CL l) (BL t) (.bool b) [] = some (.ret (.bool true), []) := by
    intro b hb
    rw [warrantorlaw27_RecPuts.j1_eq (warrantorlaw27_RecPuts.fx 1)]
    cases b with
    | true => simp only [condV_true, lives27_den, bind_some', retOr_ret]
    | false =>
      obtain ⟨q1, q2⟩ := hb rfl
      have ql := (large_fit q1).1
      have qf := fit_all q1
      simp only [condV_false]
      rw [warrantorlaw27_RecPuts.j0_eq (warrantorlaw27_RecPuts.fx 1)]
      simp only [canon_list, recPut_den l (by omega), bind_some', retOr_ret]
      cases hb : batch l with
      | false =>
        simp only [Bool.false_eq_true, if_false, exTuple_eq]
        rw [show ([AV.list [] .cap, AV.int .i64 270])[0]? = some (AV.list [] .cap) from rfl, show ([AV.list [] .cap, AV.int .i64 270])[1]? = some (AV.int .i64 270) from rfl]
        simp only [bind_some', lives27_den, retOr_ret, not_bool, Bool.not_true, condV_false, rbatch_den l (by omega) qf, hb, Bool.not_false, condV_true, bin_eql, decide_true, lnSl_list, List.length_nil]
        rfl
      | true =>
        have lb := bodyB_len hb
        have lf := frame_len (b := bodyB l) (by omega)
        have gp := getOf_put hb t
        generalize hF : frame (bodyB l) = F at *
        have a1 : apSlice 1 1 true false ([] : H) (BL [] .cap) (BL F (.own 1)) = some (BL ([] ++ F) (.own 1)) := BL_app rfl (by simp; omega)
        have a2 : apSlice 1 1 true true ([] : H) (BL F (.own 1)) (BL t) = some (BL (F ++ t) (.own 1)) := BL_app rfl (by omega)
        obtain ⟨o, eg⟩ := get_den (F ++ t) (by rw [List.length_append]; omega) []
        rw [gp] at eg
        have ep := rput_den l hb []
        rw [hF] at ep
        simp only [if_true, exTuple_eq]
        rw [show ([BL F (.own 1), AV.int .i64 0])[0]? = some (BL F (.own 1)) from rfl, show ([BL F (.own 1), AV.int .i64 0])[1]? = some (AV.int .i64 0) from rfl]
        simp only [bind_some', lives27_den, retOr_ret, not_bool, Bool.not_true, condV_false, rbatch_den l (by omega) qf, hb, row0, a1, List.nil_append, a2, BL_canon, eg, exTuple_eq]
        rw [show ([CL l o, AV.int .i64 F.length, AV.int .i64 ((0 : Nat) : Int)])[0]? = some (CL l o) from rfl, show ([CL l o, AV.int .i64 F.length, AV.int .i64 ((0 : Nat) : Int)])[1]? = some (AV.int .i64 F.length) from rfl, show ([CL l o, AV.int .i64 F.length, AV.int .i64 ((0 : Nat) : Int)])[2]? = some (AV.int .i64 0) from rfl]
        simp only [bind_some', bin_eql, decide_true, condV_true, BL_toStr, ep, retOr_ret, bin_str, strBin_eql, BL_len, canon_list, rsame_den l l (by omega), copy_bool]
  refine warrantorlaw27_RecPuts.den 1 (by simp) (h' := []) ?_ rfl rfl
  rw [warrantorlaw27_RecPuts.f_eq (warrantorlaw27_RecPuts.fx 1)]
  simp only [canon_list, canon_int, l5, bind_some', retOr_ret, BL_len, bin_gtr]
  cases hl : large l 520 with
  | true => simp only [condV_true]; exact j1 true (fun h => nomatch h)
  | false =>
    simp only [condV_false]
    exact j1 _ (fun hb => ⟨hl, by have := of_decide_eq_false hb; omega⟩)
theorem gets_law (b : List UInt8) (h : H) : D n_warrantorlaw27_RecGets [BL b] h = some (.ret (.bool true), h) := by
  refine warrantorlaw27_RecGets.den 1 (by simp) (h' := []) ?_ rfl rfl
  rw [warrantorlaw27_RecGets.f_eq (warrantorlaw27_RecGets.fx 1)]
  simp only [BL_len, bind_some', bin_gtr]
  by_cases hl : (b.length : Int) > 3000
  · simp only [decide_eq_true hl, condV_true, lives27_den, bind_some', retOr_ret]
  · have hb : b.length ≤ 3000 := by omega
    obtain ⟨o1, e1⟩ := get_den b (by omega) []
    obtain ⟨o2, e2⟩ := rget_den b (by omega) []
    have inv := getOf_inv (b := b)
    have small : (getOf b).1.length ≤ 2 ^ 50 ∧ ((getOf b).2.2 ≠ 0 → batch (getOf b).1 = false) := by
      by_cases h0 : (getOf b).2.2 = 0
      · have := (inv h0).1
        unfold batch at this
        simp only [Bool.and_eq_true, decide_eq_true_eq] at this
        exact ⟨by omega, fun h => absurd h0 h⟩
      · have hnil : (getOf b).1 = [] := by
          unfold getOf at h0 ⊢
          simp only [] at h0 ⊢
          split
          · rfl
          · split
            · rfl
            · split
              · rename_i h1 h2 _ _ h3
                rw [if_neg h1, if_neg h2, h3] at h0
                exact absurd rfl h0
              · rfl
        rw [hnil]
        exact ⟨Nat.zero_le _, fun _ => rfl⟩
    generalize getOf b = g at *
    have ep := recPut_den g.1 small.1 []
    have es := rsame_den g.1 g.1 small.1 []
    rw [decide_eq_true rfl] at es
    simp only [decide_eq_false hl, condV_false, BL_canon, e1, e2, bind_some', retOr_ret, exTuple_eq]
    rw [show ([CL g.1 o1, AV.int .i64 g.2.1, AV.int .i64 g.2.2])[0]? = some (CL g.1 o1) from rfl, show ([CL g.1 o1, AV.int .i64 g.2.1, AV.int .i64 g.2.2])[1]? = some (AV.int .i64 g.2.1) from rfl, show ([CL g.1 o1, AV.int .i64 g.2.1, AV.int .i64 g.2.2])[2]? = some (AV.int .i64 g.2.2) from rfl, show ([CL g.1 o2, AV.int .i64 g.2.1, AV.int .i64 g.2.2])[0]? = some (CL g.1 o2) from rfl, show ([CL g.1 o2, AV.int .i64 g.2.1, AV.int .i64 g.2.2])[1]? = some (AV.int .i64 g.2.1) from rfl, show ([CL g.1 o2, AV.int .i64 g.2.1, AV.int .i64 g.2.2])[2]? = some (AV.int .i64 g.2.2) from rfl]
    simp only [bind_some', lives27_den, retOr_ret, not_bool, Bool.not_true, condV_false, bin_neq, ne_eq, not_true_eq_false, decide_false, canon_list, es]
    rw [warrantorlaw27_RecGets.j1_eq (warrantorlaw27_RecGets.fx 1), condV_false, warrantorlaw27_RecGets.j0_eq (warrantorlaw27_RecGets.fx 1)]
    simp only [canon_list, ep, bind_some', retOr_ret]
    by_cases h0 : g.2.2 = 0
    · obtain ⟨i1, i2, i3⟩ := inv h0
      simp only [i1, if_true, exTuple_eq]
      rw [show ([BL (frame (bodyB g.1)) (.own 1), AV.int .i64 0])[0]? = some (BL (frame (bodyB g.1)) (.own 1)) from rfl, show ([BL (frame (bodyB g.1)) (.own 1), AV.int .i64 0])[1]? = some (AV.int .i64 0) from rfl]
      simp only [bind_some', bin_neq, decide_eq_false (show ¬ ((g.2.2 : Int) ≠ 0) by omega), condV_false, bin_eql, decide_true, condV_true, BL_len, bin_leq, decide_eq_true (show ((g.2.1 : Int) ≤ (b.length : Int)) by omega), BL_toStr, BL_to i2, bin_str, strBin_eql, i3, copy_bool]
    · simp only [small.2 h0, Bool.false_eq_true, if_false, exTuple_eq]
      rw [show ([AV.list [] .cap, AV.int .i64 270])[0]? = some (AV.list [] .cap) from rfl, show ([AV.list [] .cap, AV.int .i64 270])[1]? = some (AV.int .i64 270) from rfl]
      simp only [bind_some', bin_neq, decide_eq_true (show ((g.2.2 : Int) ≠ 0) by omega), condV_true, copy_bool]
theorem bodies_law (b : List UInt8) (h : H) : D n_warrantorlaw27_RecBodies [BL b] h = some (.ret (.bool true), h) := by
  refine warrantorlaw27_RecBodies.den 1 (by simp) (h' := []) ?_ rfl rfl
  rw [warrantorlaw27_RecBodies.f_eq (warrantorlaw27_RecBodies.fx 1)]
  simp only [BL_len, bind_some', bin_gtr]
  by_cases hl : (b.length : Int) > 2000
  · simp only [decide_eq_true hl, condV_true, lives27_den, bind_some', retOr_ret]
  · have hb : b.length ≤ 2000 := by omega
    have lf := frame_len (b := b) (by omega)
    have gp := getOf_frame (b := b) (by omega) []
    rw [List.append_nil] at gp
    obtain ⟨o1, e1⟩ := get_den (frame b) (by omega) []
    obtain ⟨o2, e2⟩ := dchanges_den b .no (by omega) []
    rw [gp] at e1
    simp only [decide_eq_false hl, condV_false, BL_canon, rframe_den b .no (by omega), e1, e2, bind_some', retOr_ret, exTuple_eq]
    cases hc : changesOf b with
    | none =>
      simp only [List.getElem?_cons_zero, List.getElem?_cons_succ, bind_some', not_bool, Bool.not_false, condV_true, lives27_den, retOr_ret, bin_eql]
      rfl
    | some l =>
      have hl : l.length ≤ 2 ^ 50 := by
        have := (changesOf_inv hc).1
        unfold batch at this
        simp only [Bool.and_eq_true, decide_eq_true_eq] at this
        omega
      have es := rsame_den l l hl []
      rw [decide_eq_true rfl] at es
      simp only [List.getElem?_cons_zero, List.getElem?_cons_succ, bind_some', not_bool, Bool.not_true, condV_false, lives27_den, retOr_ret, condV_true, bin_eql, BL_len, decide_true, canon_list, es, copy_bool, show (((0 : Nat) : Int)) = 0 from rfl]
end Go.Proofs.YtdlnkfghgbddhaaGreat
