import Derived.Test.YtdggnlgklicbdaaP2W
import Derived.BigRegion
import Derived.IntWalk
import Derived.Laws.Concat
import Derived.Laws.OwnMore
set_option linter.all false
set_option linter.all false
set_option maxRecDepth 100000
namespace Go.Proofs.Ytdggnlgklicbdaa
open Go Go.Ve Go.RowKit
theorem prts_len (s : Tx) : (prts s).length ≤ s.length := by
  have h1 : ∀ l : List Tx, (∀ p ∈ l, p ≠ []) → l.length ≤ (l.map List.length).sum := by
    intro l
    induction l with
    | nil => simp
    | cons p l ih =>
      intro h
      have h1 := ih (fun q hq => h q (List.mem_cons_of_mem _ hq))
      have h2 : 0 < p.length := List.length_pos_iff.mpr (h p (by simp))
      simp only [List.length_cons, List.map_cons, List.sum_cons]; omega
  exact Nat.le_trans (h1 _ (prtF_ne _ _)) (prtF_sum _ _)
set_option maxHeartbeats 1600000 in
theorem parts18_calls (B : ByteArray) (w : World) (hs : B.size ≤ 4398046511104) :
    Calls Try.prog 43 #[.string B] w fun e w' => ∃ v, e = .returned v ∧ w'.ownsRow w.heap.size 9 1 v (prts B.data.toList).length ((prts B.data.toList).map strV) ∧ Below w.heap.size w w' := by
  obtain ⟨i0, hi, hz0, hz1, hz2⟩ := info_parts Try.info9
  go_enter Try.func43, Try.ntmps43
  go_wp2
  go_loopg [3, 4] (B.size) (fun g v i wr => ∃ (k n : Nat) (pre : Tx), k + g = B.size ∧ i = .int .i64 (k : Int) ∧ Aside (pre = B.data.toList.take k) ∧ Aside (n = (prts pre).length) ∧ n ≤ k ∧ wr.ownsRow w.heap.size 9 1 v n ((prts pre).map strV) ∧ Below w.heap.size w wr)
  case atStart => exact ⟨0, 0, [], by omega, rfl, rfl, rfl, Nat.le_refl _, World.ownsRow_nil _ _ _ _, Below.refl _ _⟩
  case round =>
    obtain ⟨k, n, pre, hkg, rfl, HP, HN, hnk, hown, hnx⟩ := hrel
    cases gk with
    | zero =>
      have hge : ¬ ((k : Int) < (B.size : Int)) := by omega
      have HE : Aside (pre = B.data.toList) := by show _ = _; rw [HP.out]; exact List.take_of_length_le (by rw [Array.length_toList]; show B.size ≤ k; omega)
      clear hkg
      go_wp2
      go_ret
      refine ⟨_, rfl, ?_, hnx⟩
      have := HE.out
      subst this
      have := HN.out
      subst this
      exact hown
    | succ g =>
      have hlt : (k : Int) < (B.size : Int) := by omega
      have hltN : k < B.size := by omega
      have HG : Aside (k + 1 + g = B.size) := by show _ = _; omega
      clear hkg
      obtain ⟨c, HC⟩ : ∃ c, Aside (B[k] = c) := ⟨B[k], show B[k] = B[k] from rfl⟩
      have HP2 : Aside (pre ++ [c] = B.data.toList.take (k + 1)) := by
        show _ = _
        rw [HP.out, ← HC.out]
        have : B.data.toList[k]? = some B[k] := by rw [Array.getElem?_toList]; exact Array.getElem?_eq_getElem hltN
        rw [List.take_succ, this]; rfl
      have sn := prts_snoc c pre.length pre (Nat.le_refl _)
      by_cases h32 : (B[k].toNat : Int) = 32
      · have HE : Aside (prts (pre ++ [c]) = prts pre) := by
          refine sn.1 ?_
          have h := HC.out
          rw [h] at h32
          exact UInt8.toNat_inj.mp (by show c.toNat = 32; omega)
        clear sn
        go_wp2
        go_roundg g
        case measure => omega
        case rel => exact ⟨k + 1, n, pre ++ [c], HG.out, by first | rfl | simp, HP2, by show _ = _; rw [HE.out]; exact HN.out, by omega, by rw [HE.out]; exact hown, hnx⟩
      · have hc32 : c ≠ 32 := by
          intro e
          apply h32
          rw [HC.out, e]
          rfl
        have sn2 := sn.2.1 hc32
        have sn3 := sn.2.2
        clear sn
        have cW := word18_calls c
        have HS : ∀ (i j : Int), i = (k : Int) → j = (k : Int) + 1 → ∀ wx : World, (Instr.slice 9 (.string B) (some (.int .i64 i)) (some (.int .i64 j)) none).run Try.prog wx = .ok (strV [c]) wx := fun i j hi hj => sl_str (pre := B.data.toList.take k) (m := [c]) (post := B.data.toList.drop (k + 1)) (by
          rw [← List.append_assoc]
          have := HP2.out
          rw [HP.out] at this
          rw [this, List.take_append_drop]) k (k + 1) (by rw [List.length_take, Array.length_toList]; show k = min k B.size; omega) (by rw [List.length_take, Array.length_toList]; show k + 1 = min k B.size + 1; omega) i j (by omega) (by omega)
        have hsl := HS k (k + 1) rfl rfl
        cases hw : wordB c with
        | false =>
          rw [hw] at cW
          have HE : Aside (prts (pre ++ [c]) = prts pre ++ [[c]]) := sn2 (.inl hw)
          clear sn2 sn3
          go_wp2_with (first
            | (go_at_call 44; rw [HC.out]; refine (cW _).mono ?_; rintro e w4 ⟨rfl, hb4⟩; have hown4 := own_below hown hb4)
            | (at_builtin; refine wpList_append_own _ rfl _ _ 69 rfl w.heap.size 9 i0 (.string ⟨#[]⟩) 1 16 Try.underlying69 hi hz0 hz1 hz2 rfl (by decide) _ _ _ rfl (hown4.alloc _) ⟨_, 0, none⟩ 1 1 [strV [c]] rfl rfl (cell_one_new _ _ _) (fun x hx => by simp at hx; subst hx; rfl) (by unfold maxLen; omega) (by omega) (by have := hnx.size; have := hb4.size; simp; omega) ?_; intro v' w3 hown' hgrow3 hnil3))
          have hb5 := (hnx.trans ⟨hb4.os, hb4.tape, hb4.output, hb4.size, fun q hq => hb4.block q (by have := hnx.size; omega)⟩)
          go_roundg g
          case measure => omega
          case rel =>
            refine ⟨k + 1, n + 1, pre ++ [c], HG.out, by first | rfl | simp, HP2, by show _ = _; rw [HE.out, List.length_append, HN.out]; rfl, by omega, ?_, (hb5.alloc hb5.size _).grown hgrow3 (by have := hb5.size; simp; omega) (fun q hq => (hown4.lt q hq).1)⟩
            rw [HE.out, List.map_append]; exact hown'
        | true =>
          rw [hw] at cW
          by_cases hk0 : (k : Int) = 0
          · have HE : Aside (prts (pre ++ [c]) = prts pre ++ [[c]]) := sn2 (.inr (by
              rintro ⟨p, d, h, _⟩
              have h2 := HP.out
              rw [show k = 0 by omega] at h2
              rw [h2] at h; simp at h))
            clear sn2 sn3
            have hk1 : ¬ (0 < (k : Int)) := by omega
            clear hk0
            go_wp2_with (first
              | (go_at_call 44; rw [HC.out]; refine (cW _).mono ?_; rintro e w4 ⟨rfl, hb4⟩; have hown4 := own_below hown hb4)
              | (at_builtin; refine wpList_append_own _ rfl _ _ 69 rfl w.heap.size 9 i0 (.string ⟨#[]⟩) 1 16 Try.underlying69 hi hz0 hz1 hz2 rfl (by decide) _ _ _ rfl (hown4.alloc _) ⟨_, 0, none⟩ 1 1 [strV [c]] rfl rfl (cell_one_new _ _ _) (fun x hx => by simp at hx; subst hx; rfl) (by unfold maxLen; omega) (by omega) (by have := hnx.size; have := hb4.size; simp; omega) ?_; intro v' w3 hown' hgrow3 hnil3))
            have hb5 := (hnx.trans ⟨hb4.os, hb4.tape, hb4.output, hb4.size, fun q hq => hb4.block q (by have := hnx.size; omega)⟩)
            go_roundg g
            case measure => omega
            case rel =>
              refine ⟨k + 1, n + 1, pre ++ [c], HG.out, by first | rfl | simp, HP2, by show _ = _; rw [HE.out, List.length_append, HN.out]; rfl, by omega, ?_, (hb5.alloc hb5.size _).grown hgrow3 (by have := hb5.size; simp; omega) (fun q hq => (hown4.lt q hq).1)⟩
              rw [HE.out, List.map_append]; exact hown'
          · obtain ⟨k', rfl⟩ : ∃ k', k = k' + 1 := ⟨k - 1, by omega⟩
            clear hk0
            have hk1 : 0 < ((k' + 1 : Nat) : Int) := by omega
            have hsl2 := HS ((k' : Int) + 1) ((k' : Int) + 1 + 1) (by omega) (by omega)
            clear HS hsl
            have hsl := hsl2
            clear hsl2
            have hk2 : k' < B.size := by omega
            obtain ⟨d, HD⟩ : ∃ d, Aside (B[k'] = d) := ⟨B[k'], show B[k'] = B[k'] from rfl⟩
            have hpd : pre = B.data.toList.take k' ++ [d] := by
              rw [HP.out, ← HD.out]
              have : B.data.toList[k']? = some B[k'] := by rw [Array.getElem?_toList]; exact Array.getElem?_eq_getElem hk2
              rw [List.take_succ, this]; rfl
            have dW := word18_calls d
            cases hd : wordB d with
            | false =>
              rw [hd] at dW
              have HE : Aside (prts (pre ++ [c]) = prts pre ++ [[c]]) := sn2 (.inr (by
                rintro ⟨p, d', h, hd'⟩
                rw [hpd] at h
                have := List.append_inj_right' h rfl
                simp at this
                rw [← this, hd] at hd'
                cases hd'))
              clear sn2 sn3 hpd
              go_wp2_with (first
                | (go_at_call 44; rw [HC.out]; refine (cW _).mono ?_; rintro e w4 ⟨rfl, hb4⟩; have hown4 := own_below hown hb4)
                | (go_at_call 44; rw [HD.out]; refine (dW _).mono ?_; rintro e w5 ⟨rfl, hb5⟩; have hown5 := own_below hown4 hb5)
                | (at_builtin; refine wpList_append_own _ rfl _ _ 69 rfl w.heap.size 9 i0 (.string ⟨#[]⟩) 1 16 Try.underlying69 hi hz0 hz1 hz2 rfl (by decide) _ _ _ rfl (hown5.alloc _) ⟨_, 0, none⟩ 1 1 [strV [c]] rfl rfl (cell_one_new _ _ _) (fun x hx => by simp at hx; subst hx; rfl) (by unfold maxLen; omega) (by omega) (by have := hnx.size; have := hb4.size; have := hb5.size; simp; omega) ?_; intro v' w3 hown' hgrow3 hnil3))
              have hb6 := (hnx.trans ⟨hb4.os, hb4.tape, hb4.output, hb4.size, fun q hq => hb4.block q (by have := hnx.size; omega)⟩)
              have hb7 := (hb6.trans ⟨hb5.os, hb5.tape, hb5.output, hb5.size, fun q hq => hb5.block q (by have := hb6.size; omega)⟩)
              go_roundg g
              case measure => omega
              case rel =>
                refine ⟨k' + 1 + 1, n + 1, pre ++ [c], HG.out, by first | rfl | simp, HP2, by show _ = _; rw [HE.out, List.length_append, HN.out]; rfl, by omega, ?_, (hb7.alloc hb7.size _).grown hgrow3 (by have := hb7.size; simp; omega) (fun q hq => (hown5.lt q hq).1)⟩
                rw [HE.out, List.map_append]; exact hown'
            | true =>
              rw [hd] at dW
              obtain ⟨L, q, hq1, hq2⟩ := sn3 hw ⟨_, d, hpd, hd⟩
              clear sn2 sn3 hpd
              obtain ⟨m, rfl, HM⟩ : ∃ m, n = m + 1 ∧ Aside (m = L.length) := ⟨L.length, by rw [HN.out, hq1, List.length_append]; rfl, show L.length = L.length from rfl⟩
              have HQ : Aside (prts pre = L ++ [q] ∧ prts (pre ++ [c]) = L ++ [q ++ [c]]) := ⟨hq1, hq2⟩
              clear hq2
              rw [hq1, List.map_append] at hown
              clear hq1
              obtain ⟨gb, cap, rfl⟩ : ∃ gb cap, u3 = .slice (some ⟨gb, 0, none⟩) (m + 1) cap := by
                rcases hown.2 with ⟨_, h⟩ | ⟨gb, cap, cur, h, _⟩
                · cases h
                · exact ⟨gb, cap, h⟩
              go_wp2_with (first
                | (go_at_call 44; rw [HC.out]; refine (cW _).mono ?_; rintro e w4 ⟨rfl, hb4⟩; have hown4 := own_below hown hb4)
                | (go_at_call 44; rw [HD.out]; refine (dW _).mono ?_; rintro e w5 ⟨rfl, hb5⟩; have hown5 := own_below hown4 hb5))
              have hb6 := (hnx.trans ⟨hb4.os, hb4.tape, hb4.output, hb4.size, fun q hq => hb4.block q (by have := hnx.size; omega)⟩)
              have hb7 := (hb6.trans ⟨hb5.os, hb5.tape, hb5.output, hb5.size, fun q hq => hb5.block q (by have := hb6.size; omega)⟩)
              have HO : Aside (w5.ownsRow w.heap.size 9 1 (.slice (some ⟨gb, 0, none⟩) (m + 1) cap) (m + 1) (L.map strV ++ [strV q]) ∧ Below w.heap.size w w5) := ⟨hown5, hb7⟩
              obtain ⟨QB, HQB⟩ : ∃ QB : ByteArray, Aside (strV q = .string QB) := ⟨_, show strV q = .string ⟨q.toArray⟩ from rfl⟩
              obtain ⟨CB, HCB⟩ : ∃ CB : ByteArray, Aside (strV [c] = .string CB) := ⟨_, show strV [c] = .string ⟨[c].toArray⟩ from rfl⟩
              obtain ⟨NB, HNB⟩ : ∃ NB : ByteArray, Aside (strV (q ++ [c]) = .string NB) := ⟨_, show strV (q ++ [c]) = .string ⟨(q ++ [c]).toArray⟩ from rfl⟩
              have hadd : ∀ wx : World, (Go.Op.stringOp .add QB CB).run Try.prog wx = .ok (.string NB) wx := by
                intro wx
                have e1 := HQB.out
                have e2 := HCB.out
                have e3 := HNB.out
                simp only [Value.string.injEq] at e1 e2 e3
                rw [← e1, ← e2, ← e3]
                have hql : q.length ≤ B.size := by
                  have h1 := prtF_sum pre.length pre
                  have h2 : ((prts pre).map List.length).sum ≤ pre.length := h1
                  rw [HQ.out.1] at h2
                  have h3 : pre.length ≤ B.size := by rw [HP.out, List.length_take, Array.length_toList]; show min _ B.size ≤ B.size; omega
                  simp at h2
                  omega
                rw [run_string_add_sum wx _ _ (by simp [ByteArray.size]; omega), ByteArray.mk_append_mk]
              rw [HCB.out] at hsl
              have hcl : w5.cell? ⟨gb, m, none⟩ = some (.string QB) := by
                rw [hown5.cellAt m (by omega), HM.out, List.getElem?_append_right (by simp), ← HQB.out]
                simp
              have hfz : w5.frozen? ⟨gb, m, none⟩ = false := hown5.frozenAt m
              have wr1 : IntKind.i64.wrap (m : Int) = m := IntWalk.i64_in _ (by omega)
              clear hown hown4 hown5 hb4 hb5 hb6 hb7 cW dW hnx
              go_region
              go_wp2
              go_roundg g
              case measure => omega
              case rel =>
                obtain ⟨o1, o2⟩ := HO.out.1.stored m (.string NB)
                refine ⟨k' + 1 + 1, m + 1, pre ++ [c], HG.out, by first | rfl | simp, HP2, by show _ = _; rw [HQ.out.2, List.length_append, HM.out]; rfl, by omega, ?_, (Below.drew (HO.out.2.grown o2 HO.out.2.size (fun q hq => by cases hq; exact (HO.out.1.lt _ rfl).1)))⟩
                rw [HQ.out.2, List.map_append]
                have e : (L.map strV ++ [strV q]).set m (.string NB) = L.map strV ++ [strV (q ++ [c])] := by
                  rw [HNB.out, HM.out, List.set_append_right _ _ (by simp)]
                  simp
                rw [e] at o1
                exact o1
end Go.Proofs.Ytdggnlgklicbdaa
