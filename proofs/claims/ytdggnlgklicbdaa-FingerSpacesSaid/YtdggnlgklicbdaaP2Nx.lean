import Derived.Test.YtdggnlgklicbdaaP2X
import Derived.Test.YtdggnlgklicbdaaVa5
set_option linter.all false
set_option linter.all false
set_option maxRecDepth 100000
namespace Go.Proofs.Ytdggnlgklicbdaa
open Go Go.Ve Go.RowKit
def normE : List AV → H → Option (AEnd × H)
  | [.str s], h => if s.length ≤ 4398046511104 then some (.ret (.str (nrm false (prts s))), h) else none
  | _, _ => none
theorem normE_ok : ExtOk Try.prog 78 normE := by
  intro args h r he vals w g hH ha
  unfold normE at he
  split at he
  · rename_i s
    split at he
    · rename_i hc
      cases he
      obtain ⟨u, rfl, r1⟩ := argsRep_one ha
      cases r1
      refine .inl ⟨callFunc_enter Try.func78 (c := Try.f78.body.getD .skip) (by kernel_rfl) (by kernel_rfl) _, (norm_calls ⟨s.toArray⟩ w (by simpa [ByteArray.size] using hc)).mono fun e w' he => ?_⟩
      obtain ⟨rfl, hbl⟩ := he
      obtain ⟨e1, e2, e3⟩ := below_ev (S := fun _ _ => False) hH hbl (fun _ _ h => h.elim)
      exact ⟨_, _, rfl, e1, e2, fun _ _ _ => e3 _, by simpa using .str⟩
    · cases he
  · cases he
def partsE : List AV → H → Option (AEnd × H)
  | [.str s], h => if s.length ≤ 4398046511104 then some (.ret (.list ((prts s).map txRow) .no), h) else none
  | _, _ => none
theorem own_texts {w w' : World} {g : Gh} {h : H} {v : Value} {l : List Tx} (hH : HR w g h) (hbl : Below w.heap.size w w') (hown : w'.ownsRow w.heap.size 9 1 v l.length (l.map strV)) :
    ∃ g', Ev w g w' g' ∧ HR w' g' h ∧ (∀ t p c, Keeps w g w' g' (.tmp t p c) (.tmp t p c)) ∧ Rep w' g' (fun p c => some (.res p c)) (.list (l.map txRow) .no) v := by
  rcases hown.2 with ⟨h0, h1⟩ | ⟨g2, cap, cur, hv, hbase, hbk, hk1, hk2, hk3, hk4⟩
  · have hl : l = [] := List.eq_nil_of_length_eq_zero h1
    subst hl h0
    obtain ⟨e1, e2, e3⟩ := below_ev (S := fun _ _ => False) hH hbl (fun _ _ h => h.elim)
    exact ⟨_, e1, e2, fun _ _ _ => e3 _, .list 0 0 0 (fun _ _ => undef) rfl (Nat.zero_le _) (fun h => absurd rfl h) (by simp) (by simp) (by simp) trivial⟩
  · subst hv
    have hg2 : g2 < w'.heap.size := by
      rcases Nat.lt_or_ge g2 w'.heap.size with h | h
      · exact h
      · rw [Array.getElem?_eq_none h] at hbk; cases hbk
    obtain ⟨e1, e2, e3⟩ := below_ev (S := fun b k => b = g2 ∧ k < l.length) hH hbl (fun b k h => by rw [h.1]; exact ⟨hbase, hg2⟩)
    have hcur : ∀ i, i < l.length → w'.cell? ⟨g2, i, none⟩ = some (.string ⟨(l.getD i []).toArray⟩) := by
      intro i hi
      have q : (cur.toList.take (l.length * 1))[i]? = some (.string ⟨(l.getD i []).toArray⟩) := by
        rw [hk4, List.getElem?_map, List.getElem?_eq_getElem hi, List.getD_eq_getElem?_getD, List.getElem?_eq_getElem hi]
        rfl
      rw [List.getElem?_take, if_pos (by omega), Array.getElem?_toList] at q
      simp [World.cell?, hbk, q]
    refine ⟨_, e1, e2, fun _ _ _ => e3 _, .list g2 0 1 (fun i _ => .string ⟨(l.getD i []).toArray⟩) (by rw [List.length_map]) hk1 (fun _ => rfl) (by
      intro r hr
      obtain ⟨s, _, rfl⟩ := List.mem_map.1 hr
      rfl) (fun i r j cl hi hj => ?_) (fun i r j cl hi hj => ?_) trivial⟩
    · rw [List.getElem?_map, Option.map_eq_some_iff] at hi
      obtain ⟨s, hs, rfl⟩ := hi
      have hil := (List.getElem?_eq_some_iff.1 hs).1
      cases j with
      | succ j => simp at hj
      | zero =>
        simp at hj
        subst hj
        refine ⟨rfl, .inr ⟨rfl, by omega⟩, ?_⟩
        rw [Nat.zero_add, Nat.mul_one, Nat.add_zero]
        exact hcur i hil
    · rw [List.getElem?_map, Option.map_eq_some_iff] at hi
      obtain ⟨s, hs, rfl⟩ := hi
      cases j with
      | succ j => simp at hj
      | zero =>
        simp at hj
        subst hj
        rw [List.getD_eq_getElem?_getD, hs]
        exact .str
theorem partsE_ok : ExtOk Try.prog 43 partsE := by
  intro args h r he vals w g hH ha
  unfold partsE at he
  split at he
  · rename_i s
    split at he
    · rename_i hc
      cases he
      obtain ⟨u, rfl, r1⟩ := argsRep_one ha
      cases r1
      refine .inl ⟨callFunc_enter Try.func43 (c := Try.f43.body.getD .skip) (by kernel_rfl) (by kernel_rfl) _, (parts18_calls ⟨s.toArray⟩ w (by simpa [ByteArray.size] using hc)).mono fun e w' he => ?_⟩
      obtain ⟨v, rfl, hown, hbl⟩ := he
      rw [show (⟨s.toArray⟩ : ByteArray).data.toList = s by simp] at hown
      obtain ⟨g', e1, e2, e3, e4⟩ := own_texts hH hbl hown
      exact ⟨_, g', rfl, e1, e2, e3, e4⟩
    · cases he
  · cases he
end Go.Proofs.Ytdggnlgklicbdaa
