import Derived.Test.YtdggnlgklicbdaaP2G1
import Derived.Test.YtdggnlgklicbdaaP2G2
import Derived.Test.YtdggnlgklicbdaaP2Nn
import Derived.Test.YtdggnlgklicbdaaVa5
set_option linter.all false
set_option linter.all false
set_option maxRecDepth 100000
namespace Go.Proofs.Ytdggnlgklicbdaa
open Go Go.Ve Go.RowKit
noncomputable def tab0 : List (Nat × FAnn × Ann) := [(44, ref18_word.A, ref18_word.an), (63, ref11_Name.A, ref11_Name.an), (90, ref11_more.A, ref11_more.an), (91, ref11_letter.A, ref11_letter.an)]
noncomputable def pol0 : Pol := tabPol tab0 [] []
theorem pol0_ok : PolOk Try.prog pol0 := polOk_tab (by kernel_rfl) (fun p hp => by cases hp)
def isB (b : Bool) : Option (AEnd × H) → Bool
  | some (.ret (.bool b'), _) => b == b'
  | _ => false
noncomputable def wordChk (c : Nat) : Bool := isB (wordB (UInt8.ofNat c)) (acall Try.prog pol0 8 44 [.int .u8 (c : Int)] [])
theorem wordChk_all : (List.range 256).all wordChk = true := by kernel_rfl
theorem isB_some {b : Bool} {o : Option (AEnd × H)} (h : isB b o = true) : ∃ h', o = some (.ret (.bool b), h') := by
  unfold isB at h
  split at h
  · rename_i b' h'
    have : b = b' := by simpa using h
    subst this
    exact ⟨_, rfl⟩
  · cases h
theorem word18_calls (c : UInt8) (w : World) : Calls Try.prog 44 #[.int .u8 (c.toNat : Int)] w fun e w' => e = .returned (.bool (wordB c)) ∧ Below w.heap.size w w' := by
  have h1 := List.all_eq_true.mp wordChk_all c.toNat (List.mem_range.mpr c.toNat_lt)
  unfold wordChk at h1
  rw [UInt8.ofNat_toNat] at h1
  obtain ⟨h', h2⟩ := isB_some h1
  have ha : ArgsL w (gOld w) [.int .u8 (c.toNat : Int)] (#[.int .u8 (c.toNat : Int)] : Array Value).toList := ⟨.int, trivial⟩
  rcases acall_sound pol0_ok 8 44 _ [] _ h2 #[.int .u8 (c.toNat : Int)] w (gOld w) (gOld_hr w) ha.rep with ⟨_, h3⟩ | ⟨u, w', h3, _⟩
  · refine h3.mono fun e w' hp => ?_
    cases e with
    | returned u =>
      obtain ⟨v, g', e1, ev, _, _, hr⟩ := hp
      cases e1
      cases hr
      exact ⟨rfl, below_of_ev ev⟩
    | panicked ch => obtain ⟨v, u, g', e1, _⟩ := hp; cases e1
    | outgrown => exact hp.elim
  · rw [callFunc_enter Try.func44 (c := Try.f44.body.getD .skip) (by kernel_rfl) (by kernel_rfl)] at h3
    cases h3
theorem own_below {w w' : World} {base : Nat} {e : TypeId} {sz : Nat} {v : Value} {n : Nat} {xs : List Value} (h : w.ownsRow base e sz v n xs) (hb : Below w.heap.size w w') : w'.ownsRow base e sz v n xs := by
  refine ⟨h.1, h.2.imp id fun ⟨g, cap, cur, h1, h2, h3, h4⟩ => ⟨g, cap, cur, h1, h2, ?_, h4⟩⟩
  rw [hb.block g (Array.getElem?_eq_some_iff.mp h3).1]
  exact h3
def endW (s : Tx) : Prop := ∃ p d, s = p ++ [d] ∧ wordB d = true
theorem endW_cons {c : UInt8} {l : Tx} (hl : l ≠ []) : endW (c :: l) ↔ endW l := by
  constructor
  · rintro ⟨p, d, h, hd⟩
    cases p with
    | nil => simp at h; exact absurd h.2 hl
    | cons q p => simp at h; exact ⟨p, d, h.2, hd⟩
  · rintro ⟨p, d, rfl, hd⟩
    exact ⟨c :: p, d, rfl, hd⟩
theorem prtF_more : ∀ (f f' : Nat) (s : Tx), s.length ≤ f → s.length ≤ f' → prtF f s = prtF f' s
  | 0, 0, _, _, _ => rfl
  | 0, f' + 1, [], _, _ => by simp [prtF]
  | f + 1, 0, [], _, _ => by simp [prtF]
  | 0, f' + 1, c :: l, h, _ => by simp at h
  | f + 1, 0, c :: l, _, h => by simp at h
  | f + 1, f' + 1, [], _, _ => by simp [prtF]
  | f + 1, f' + 1, c :: l, h, h' => by
    simp only [List.length_cons] at h h'
    have hd : (l.dropWhile wordB).length ≤ l.length := (List.dropWhile_sublist wordB).length_le
    simp only [prtF]
    rw [prtF_more f f' (l.dropWhile wordB) (by omega) (by omega), prtF_more f f' l (by omega) (by omega)]
theorem prts_nil : prts [] = [] := rfl
theorem prts_word {c : UInt8} {l : Tx} (h : wordB c = true) : prts (c :: l) = (c :: l.takeWhile wordB) :: prts (l.dropWhile wordB) := by
  unfold prts
  simp only [List.length_cons, prtF, h, if_true]
  rw [prtF_more l.length (l.dropWhile wordB).length _ (List.dropWhile_sublist wordB).length_le (Nat.le_refl _)]
theorem prts_blank {l : Tx} : prts (32 :: l) = prts l := by
  unfold prts
  simp only [List.length_cons, prtF, show wordB 32 = false from by decide, if_true, Bool.false_eq_true, if_false]
theorem prts_other {c : UInt8} {l : Tx} (h : wordB c = false) (h32 : c ≠ 32) : prts (c :: l) = [c] :: prts l := by
  unfold prts
  simp only [List.length_cons, prtF, h, h32, Bool.false_eq_true, if_false]
theorem mem_tw {p : UInt8 → Bool} : ∀ {l : Tx} {y : UInt8}, y ∈ l.takeWhile p → p y = true
  | [], y, h => by simp at h
  | x :: l, y, h => by
    rw [List.takeWhile_cons] at h
    split at h
    · rcases List.mem_cons.mp h with rfl | h
      · assumption
      · exact mem_tw h
    · cases h
theorem tw_app {p : UInt8 → Bool} {l : Tx} {c : UInt8} : (l.dropWhile p ≠ [] → (l ++ [c]).takeWhile p = l.takeWhile p ∧ (l ++ [c]).dropWhile p = l.dropWhile p ++ [c]) ∧ (l.dropWhile p = [] → l.takeWhile p = l ∧ (l ++ [c]).takeWhile p = l ++ [c].takeWhile p ∧ (l ++ [c]).dropWhile p = [c].dropWhile p) := by
  induction l with
  | nil => simp
  | cons d l ih =>
    cases hd : p d <;> simp [hd]
    exact ih
theorem prts_snoc (c : UInt8) : ∀ (n : Nat) (s : Tx), s.length ≤ n →
    (c = 32 → prts (s ++ [c]) = prts s) ∧ (c ≠ 32 → (wordB c = false ∨ ¬ endW s) → prts (s ++ [c]) = prts s ++ [[c]]) ∧ (wordB c = true → endW s → ∃ L q, prts s = L ++ [q] ∧ prts (s ++ [c]) = L ++ [q ++ [c]])
  | n, [], _ => by
    refine ⟨fun h => by subst h; simp [prts_blank], fun h h2 => ?_, fun h ⟨p, d, e, _⟩ => by simp at e⟩
    cases hw : wordB c
    · rw [List.nil_append, prts_other hw h]; simp [prts_nil]
    · rw [List.nil_append, prts_word hw]; simp [prts_nil]
  | 0, d :: l, h => by simp at h
  | n + 1, d :: l, h => by
    simp only [List.length_cons] at h
    cases hd : wordB d with
    | false =>
      have ih := prts_snoc c n l (by omega)
      have hend : endW (d :: l) ↔ endW l := by
        by_cases hl : l = []
        · subst hl
          constructor
          · rintro ⟨p, d', e, hd'⟩
            cases p with
            | nil => simp at e; rw [← e, hd] at hd'; cases hd'
            | cons q p => simp at e
          · rintro ⟨p, d', e, hd'⟩; simp at e
        · exact endW_cons hl
      rw [hend, List.cons_append]
      by_cases h32 : d = 32
      · subst h32
        rw [prts_blank, prts_blank]; exact ih
      · rw [prts_other hd h32, prts_other hd h32]
        refine ⟨fun e => by rw [ih.1 e], fun e e2 => by rw [ih.2.1 e e2]; rfl, fun e e2 => ?_⟩
        obtain ⟨L, q, h1, h2⟩ := ih.2.2 e e2
        exact ⟨[d] :: L, q, by rw [h1]; rfl, by rw [h2]; rfl⟩
    | true =>
      rw [List.cons_append, prts_word hd, prts_word hd]
      obtain ⟨t1, t2⟩ := tw_app (p := wordB) (l := l) (c := c)
      have hlen : (l.dropWhile wordB).length ≤ l.length := (List.dropWhile_sublist wordB).length_le
      by_cases hr : l.dropWhile wordB = []
      · obtain ⟨e0, e1, e2⟩ := t2 hr
        have hw : endW (d :: l) := by
          rcases List.eq_nil_or_concat l with rfl | ⟨p, x, rfl⟩
          · exact ⟨[], d, rfl, hd⟩
          · refine ⟨d :: p, x, by simp, ?_⟩
            have : ∀ y ∈ (p ++ [x]).takeWhile wordB, wordB y = true := fun y hy => mem_tw hy
            rw [List.concat_eq_append] at e0
            rw [e0] at this
            exact this x (by simp)
        rw [hr, e1, e2, e0]
        refine ⟨fun e => ?_, fun e e3 => ?_, fun e _ => ?_⟩
        · subst e; simp [show wordB 32 = false from by decide, prts_blank]
        · have hc := e3.resolve_right (fun h => h hw)
          simp [hc, prts_other hc e, prts_nil]
        · exact ⟨[], d :: l, by simp [prts_nil], by simp [e, prts_nil]⟩
      · obtain ⟨e1, e2⟩ := t1 hr
        have ih := prts_snoc c n (l.dropWhile wordB) (by omega)
        have hend : endW (d :: l) ↔ endW (l.dropWhile wordB) := by
          have key : ∀ (m r : Tx), r ≠ [] → (endW (m ++ r) ↔ endW r) := by
            intro m r hr
            induction m with
            | nil => simp
            | cons x m ih2 => rw [List.cons_append, endW_cons (by simp [hr])]; exact ih2
          have := key (d :: l.takeWhile wordB) (l.dropWhile wordB) hr
          rw [List.cons_append, List.takeWhile_append_dropWhile] at this
          exact this
        rw [e1, e2, hend]
        refine ⟨fun e => by rw [ih.1 e], fun e e2 => by rw [ih.2.1 e e2]; rfl, fun e e2 => ?_⟩
        obtain ⟨L, q, h1, h2⟩ := ih.2.2 e e2
        exact ⟨(d :: l.takeWhile wordB) :: L, q, by rw [h1]; rfl, by rw [h2]; rfl⟩
end Go.Proofs.Ytdggnlgklicbdaa
