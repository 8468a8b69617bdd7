import Derived.Test.YtdggnlgklicbdaaVb0
set_option linter.all false
open Go Go.Ve Go.Proofs
namespace Go.Proofs.Ytdggnlgklicbdaa
set_option maxRecDepth 100000
set_option linter.all false
structure IsSort (lt : Nat → Nat → Prop) (r l : List Nat) : Prop where
  up : Up lt r
  mem : ∀ z, z ∈ r ↔ z ∈ l
  len : r.length = l.length
section
variable {J : Jn (AEnd × H)} {k : Nat} {h : H} {id n N : Nat} {f : AV} {lt : Nat → Nat → Prop}
theorem ins_l1 (hJ : slices_insertionSortCmpFunc_int.F D k J) (hc : CmpOk f id h lt N) (s : Strict lt) (hid : id < h.length) (hn : n ≤ 2 ^ 40) {P R : List Nat} {y m0 i b : Nat} (hy : y < N) (hi : i < 2 ^ 50) : ∀ (Z W : List Nat) (m : Nat), Z.length < m → Up lt (Z.reverse ++ W) → (∀ x ∈ W, lt y x) → (∀ x ∈ Z, x < y) → P.length + (Z.length + (1 + (W.length + R.length))) = n →
    ∃ W', IsMerge lt W' (Z.reverse ++ W) [y] ∧ slices_insertionSortCmpFunc_int.l1 J m0 m (SL id n) (.int .i64 (P.length : Int)) (.int .i64 (b : Int)) f (.int .i64 (i : Int)) (.int .i64 ((P.length + Z.length : Nat) : Int)) (S h id (P ++ (Z.reverse ++ y :: (W ++ R)))) = slices_insertionSortCmpFunc_int.l0 J m0 (SL id n) (.int .i64 (P.length : Int)) (.int .i64 (b : Int)) f (.int .i64 ((i + 1 : Nat) : Int)) (S h id (P ++ (W' ++ R)))
  | [], W, m + 1, hm, hu, hw, hz, ht => by
    refine ⟨y :: W, ?_, ?_⟩
    · have := merge_right s (x := y) (p := []) (q := W) hu (fun _ h => nomatch h) hw
      exact this
    · rw [slices_insertionSortCmpFunc_int.l1_eq hJ]
      simp only [List.length_nil, gtrN, decide_eq_false (show ¬ P.length < P.length + 0 by omega), bind_some', condV_false, add1 i (by omega), List.reverse_nil, List.nil_append]
      rfl
  | z :: Z, W, m + 1, hm, hu, hw, hz, ht => by
    simp only [List.length_cons] at hm ht
    have lt1 : P.length + Z.length < n := by omega
    have lt2 : P.length + Z.length + 1 < n := by omega
    have e1 : P ++ ((z :: Z).reverse ++ y :: (W ++ R)) = (P ++ Z.reverse) ++ z :: y :: (W ++ R) := by simp
    have pl : (P ++ Z.reverse).length = P.length + Z.length := by simp
    have len1 : ((P ++ Z.reverse) ++ z :: y :: (W ++ R)).length = n := by simp; omega
    have a1 : ((P ++ Z.reverse) ++ z :: y :: (W ++ R))[P.length + Z.length]? = some z := by rw [← pl]; exact at_len
    have a2 : ((P ++ Z.reverse) ++ z :: y :: (W ++ R))[P.length + Z.length + 1]? = some y := by rw [← pl]; exact at_len1
    obtain ⟨v, c1, c2⟩ := hc.call ((P ++ Z.reverse) ++ z :: y :: (W ++ R)) y z (hz z (by simp)) hy
    rw [slices_insertionSortCmpFunc_int.l1_eq hJ, e1, gtrN, decide_eq_true (show P.length < P.length + (z :: Z).length by simp)]
    simp only [List.length_cons, bind_some', condV_true, sub1 (show P.length + (Z.length + 1) < 2 ^ 60 by omega) (show 1 ≤ P.length + (Z.length + 1) by omega)]
    rw [show P.length + (Z.length + 1) - 1 = P.length + Z.length by omega, show P.length + (Z.length + 1) = P.length + Z.length + 1 by omega]
    simp only [SL_at lt1, SL_at lt2, bind_some', S_ld hid a1, S_ld hid a2, canon_int, c1, retOr_ret, bin_lss]
    rw [List.reverse_cons, List.append_assoc] at hu
    by_cases hv : v < 0
    · have hl := c2.mp hv
      obtain ⟨W', mg, e⟩ := ins_l1 hJ hc s hid hn (P := P) (R := R) (m0 := m0) (i := i) (b := b) hy hi Z (z :: W) m (by omega) hu (fun x hx => by
        rcases List.mem_cons.mp hx with rfl | hx
        · exact hl
        · exact hw x hx) (fun x hx => hz x (List.mem_cons_of_mem _ hx)) (by simp; omega)
      refine ⟨W', by rw [List.reverse_cons, List.append_assoc]; exact mg, ?_⟩
      have sw := swap_next (p := P ++ Z.reverse) (q := W ++ R) (x := z) (y := y)
      rw [pl] at sw
      have sw2 : ((P ++ Z.reverse ++ z :: y :: (W ++ R)).set (P.length + Z.length + 1) z).set (P.length + Z.length) y = (P ++ Z.reverse) ++ y :: z :: (W ++ R) := by
        rw [← sw, List.set_comm _ _ (show P.length + Z.length + 1 ≠ P.length + Z.length by omega)]
      have e2 : (P ++ Z.reverse) ++ y :: z :: (W ++ R) = P ++ (Z.reverse ++ y :: (z :: W ++ R)) := by simp
      simp only [decide_eq_true hv, condV_true]
      rw [slices_insertionSortCmpFunc_int.j0_eq hJ]
      simp only [sub1 (show P.length + Z.length + 1 < 2 ^ 60 by omega) (show 1 ≤ P.length + Z.length + 1 by omega), show P.length + Z.length + 1 - 1 = P.length + Z.length by omega, bind_some', SL_at lt1, SL_at lt2, S_ld hid a1, S_ld hid a2, copy_int]
      rw [S_st hid (by rw [len1]; exact lt2) z, bind_some', S_st hid (by rw [List.length_set, len1]; exact lt1) y, sw2, e2]
      simp only [bind_some']
      exact e
    · have hl : lt z y := by
        rcases s.tri y z with h1 | h1 | h1
        · exact absurd (c2.mpr h1) hv
        · exact absurd h1 (Nat.ne_of_gt (hz z (by simp)))
        · exact h1
      have u' : Up lt ((Z.reverse ++ [z]) ++ W) := by rw [List.append_assoc]; exact hu
      refine ⟨(Z.reverse ++ [z]) ++ y :: W, ?_, ?_⟩
      · rw [List.reverse_cons]
        refine merge_right s u' (fun x hx => ?_) hw
        rcases List.mem_append.mp hx with hx | hx
        · have := (List.pairwise_append.mp hu).2.2 x hx z (by simp)
          exact s.trans this hl
        · rw [List.mem_singleton.mp hx]; exact hl
      · simp only [decide_eq_false hv, condV_false, add1 i (by omega), bind_some']
        congr 2
        simp
theorem ins_l0 (hJ : slices_insertionSortCmpFunc_int.F D k J) (hc : CmpOk f id h lt N) (s : Strict lt) (hid : id < h.length) (hn : n ≤ 2 ^ 40) {P R : List Nat} (hk : n < k) : ∀ (T W : List Nat) (m : Nat), T.length < m → Up lt W → (∀ x ∈ W, ∀ y ∈ T, x < y) → T.Pairwise (· < ·) → (∀ y ∈ T, y < N) → P.length + (W.length + (T.length + R.length)) = n →
    ∃ W', Up lt W' ∧ (∀ z, z ∈ W' ↔ z ∈ W ∨ z ∈ T) ∧ W'.length = W.length + T.length ∧ slices_insertionSortCmpFunc_int.l0 J m (SL id n) (.int .i64 (P.length : Int)) (.int .i64 ((P.length + W.length + T.length : Nat) : Int)) f (.int .i64 ((P.length + W.length : Nat) : Int)) (S h id (P ++ (W ++ (T ++ R)))) = some (.ret (.tuple []), S h id (P ++ (W' ++ R)))
  | [], W, m + 1, hm, hu, hx, hs, hN, ht => by
    refine ⟨W, hu, fun z => by simp, by simp, ?_⟩
    rw [slices_insertionSortCmpFunc_int.l0_eq hJ]
    simp only [List.length_nil, Nat.add_zero, lssN, decide_eq_false (show ¬ P.length + W.length < P.length + W.length by omega), bind_some', condV_false, List.nil_append]
  | y :: T, W, m + 1, hm, hu, hx, hs, hN, ht => by
    simp only [List.length_cons] at hm ht
    obtain ⟨hs1, hs2⟩ := List.pairwise_cons.mp hs
    obtain ⟨W1, mg, e1⟩ := ins_l1 hJ hc s hid hn (P := P) (R := T ++ R) (y := y) (m0 := m) (i := P.length + W.length) (b := P.length + W.length + (T.length + 1)) (hN y (by simp)) (by omega) W.reverse [] k (by simp; omega) (by rw [List.reverse_reverse, List.append_nil]; exact hu) (fun _ h => nomatch h) (fun x hx' => hx x (List.mem_reverse.mp hx') y (by simp)) (by simp; omega)
    rw [List.reverse_reverse, List.append_nil] at mg
    rw [List.reverse_reverse] at e1
    have l1 : W1.length = W.length + 1 := by rw [mg.len]; rfl
    obtain ⟨W', u', m', l', e⟩ := ins_l0 hJ hc s hid hn (P := P) (R := R) hk T W1 m (by omega) mg.up (fun x hx' z hz => by
      rcases (mg.mem x).mp hx' with h1 | h1
      · exact hx x h1 z (List.mem_cons_of_mem _ hz)
      · rw [List.mem_singleton.mp h1]; exact hs1 z hz) hs2 (fun z hz => hN z (List.mem_cons_of_mem _ hz)) (by omega)
    refine ⟨W', u', fun z => ?_, by simp; omega, ?_⟩
    · rw [m' z, mg.mem z, List.mem_singleton, List.mem_cons]
      constructor
      · rintro ((h | h) | h)
        · exact .inl h
        · exact .inr (.inl h)
        · exact .inr (.inr h)
      · rintro (h | h | h)
        · exact .inl (.inl h)
        · exact .inl (.inr h)
        · exact .inr h
    · rw [slices_insertionSortCmpFunc_int.l0_eq hJ]
      simp only [List.length_cons, lssN, decide_eq_true (show P.length + W.length < P.length + W.length + (T.length + 1) by omega), bind_some', condV_true]
      rw [l1, show P.length + (W.length + 1) + T.length = P.length + W.length + (T.length + 1) by omega, show P.length + (W.length + 1) = P.length + W.length + 1 by omega] at e
      rw [List.length_reverse, List.nil_append] at e1
      exact e1.trans e
theorem ins_den (hc : CmpOk f id h lt N) (s : Strict lt) (hid : id < h.length) (hn : n ≤ 2 ^ 40) {P T R : List Nat} (hs : T.Pairwise (· < ·)) (hN : ∀ y ∈ T, y < N) (ht : P.length + (T.length + R.length) = n) :
    ∃ W, IsSort lt W T ∧ D n_slices_insertionSortCmpFunc_int [SL id n, .int .i64 (P.length : Int), .int .i64 ((P.length + T.length : Nat) : Int), f] (S h id (P ++ (T ++ R))) = some (.ret (.tuple []), S h id (P ++ (W ++ R))) := by
  have hJ := slices_insertionSortCmpFunc_int.fx (n + 1)
  cases T with
  | nil =>
    refine ⟨[], ⟨List.Pairwise.nil, fun z => Iff.rfl, rfl⟩, slices_insertionSortCmpFunc_int.den (n + 1) ?_ rfl⟩
    rw [slices_insertionSortCmpFunc_int.f_eq hJ]
    simp only [add1 P.length (by omega), bind_some']
    rw [slices_insertionSortCmpFunc_int.l0_eq hJ]
    simp only [List.length_nil, Nat.add_zero, lssN, decide_eq_false (show ¬ P.length + 1 < P.length by omega), bind_some', condV_false]
  | cons y T =>
    simp only [List.length_cons] at ht
    obtain ⟨hs1, hs2⟩ := List.pairwise_cons.mp hs
    obtain ⟨W', u', m', l', e⟩ := ins_l0 hJ hc s hid hn (P := P) (R := R) (Nat.lt_succ_self n) T [y] (n + 1) (by omega) (List.pairwise_singleton _ _) (fun x hx z hz => by rw [List.mem_singleton.mp hx]; exact hs1 z hz) hs2 (fun z hz => hN z (List.mem_cons_of_mem _ hz)) (by simp; omega)
    refine ⟨W', ⟨u', fun z => by rw [m' z, List.mem_singleton, List.mem_cons], by rw [l']; simp; omega⟩, slices_insertionSortCmpFunc_int.den (n + 1) ?_ rfl⟩
    rw [slices_insertionSortCmpFunc_int.f_eq hJ]
    simp only [add1 P.length (by omega), bind_some']
    rw [show P.length + (y :: T).length = P.length + [y].length + T.length by simp; omega]
    exact e
abbrev Ahead (A B : List Nat) : Prop := ∀ x ∈ A, ∀ y ∈ B, x < y
structure Blk (lt : Nat → Nat → Prop) (N bs : Nat) (F : List (List Nat)) (L : List Nat) : Prop where
  full : ∀ A ∈ F, A.length = bs ∧ Up lt A
  last : L.length < bs ∧ Up lt L
  ord : (F ++ [L]).Pairwise Ahead
  few : ∀ y ∈ F.flatten ++ L, y < N
theorem flat_mem {F : List (List Nat)} {L : List Nat} {A : List Nat} (ho : ((A :: F) ++ [L]).Pairwise Ahead) : ∀ x ∈ A, ∀ y ∈ F.flatten ++ L, x < y := by
  intro x hx y hy
  rw [List.cons_append] at ho
  have h1 := (List.pairwise_cons.mp ho).1
  rcases List.mem_append.mp hy with hy | hy
  · obtain ⟨B, hB, hy⟩ := List.mem_flatten.mp hy
    exact h1 B (List.mem_append_left _ hB) x hx y hy
  · exact h1 L (List.mem_append_right _ (by simp)) x hx y hy
theorem pass_loop (hJ : slices_stableCmpFunc_int.F D k J) (hc : CmpOk f id h lt N) (s : Strict lt) (hid : id < h.length) (hn : n ≤ 2 ^ 40) {bs m0 : Nat} (h0 : 0 < bs) (hbs : bs ≤ 2 ^ 41) : ∀ (m : Nat) (F : List (List Nat)) (L X : List Nat), F.length < m → Blk lt N bs F L → X.length + (F.flatten.length + L.length) = n →
    ∃ F' L', Blk lt N (bs * 2) F' L' ∧ (∀ z, z ∈ F'.flatten ++ L' ↔ z ∈ F.flatten ++ L) ∧ F'.flatten.length + L'.length = F.flatten.length + L.length ∧
      slices_stableCmpFunc_int.l2 J m0 m (SL id n) (.int .i64 (n : Int)) f (.int .i64 (bs : Int)) (.int .i64 (X.length : Int)) (.int .i64 ((X.length + 2 * bs : Nat) : Int)) (S h id (X ++ (F.flatten ++ L))) = slices_stableCmpFunc_int.l1 J m0 (SL id n) (.int .i64 (n : Int)) f (.int .i64 ((bs * 2 : Nat) : Int)) (S h id (X ++ (F'.flatten ++ L')))
  | m + 1, F, L, X, hm, hb, ht => by
    have mul2 : bin .mul (.int .i64 2) (.int .i64 (bs : Int)) = some (.int .i64 ((2 * bs : Nat) : Int)) := by
      rw [bin_mul, wrap_i64 (by omega) (by omega)]; rfl
    have mulB : bin .mul (.int .i64 (bs : Int)) (.int .i64 2) = some (.int .i64 ((bs * 2 : Nat) : Int)) := by
      rw [bin_mul, wrap_i64 (by omega) (by omega)]; rfl
    match F, hm, hb, ht with
    | A :: B :: F, hm, hb, ht =>
      have la := hb.full A (by simp)
      have lb := hb.full B (by simp)
      have ord1 := hb.ord
      rw [List.cons_append] at ord1
      obtain ⟨oA, oR⟩ := List.pairwise_cons.mp ord1
      rw [List.cons_append] at oR
      obtain ⟨oB, oF⟩ := List.pairwise_cons.mp oR
      have hAB : Ahead A B := oA B (by simp)
      have fl : (A :: B :: F).flatten = A ++ (B ++ F.flatten) := by simp
      rw [fl] at ht ⊢
      simp only [List.length_append] at ht
      obtain ⟨R, mg, e1⟩ := sym_den hc s hid hn (A.length + B.length) X A B (F.flatten ++ L) (Nat.le_refl _) (by omega) (by omega) la.2 lb.2 hAB (fun y hy => hb.few y (by rw [fl]; simp [hy])) (by rw [List.length_append]; omega)
      have lr : R.length = 2 * bs := by rw [mg.len]; omega
      have hb2 : Blk lt N bs F L := ⟨fun C hC => hb.full C (by simp [hC]), hb.last, oF, fun y hy => hb.few y (by rw [fl]; rcases List.mem_append.mp hy with h | h <;> simp [h])⟩
      obtain ⟨F', L', bk, me, le, e⟩ := pass_loop hJ hc s hid hn (m0 := m0) h0 hbs m F L (X ++ R) (by simp at hm; omega) hb2 (by simp only [List.length_append]; omega)
      have hRa : ∀ x ∈ R, ∀ y ∈ F.flatten ++ L, x < y := by
        intro x hx y hy
        rcases (mg.mem x).mp hx with h1 | h1
        · refine flat_mem (A := A) (F := B :: F) (L := L) hb.ord x h1 y ?_
          rw [List.flatten_cons, List.append_assoc]
          exact List.mem_append_right _ hy
        · exact flat_mem (A := B) (F := F) (L := L) oR x h1 y hy
      refine ⟨R :: F', L', ⟨fun C hC => ?_, bk.last, ?_, fun y hy => ?_⟩, fun z => ?_, ?_, ?_⟩
      · rcases List.mem_cons.mp hC with rfl | hC
        · exact ⟨by omega, mg.up⟩
        · exact bk.full C hC
      · rw [List.cons_append]
        refine List.pairwise_cons.mpr ⟨fun C hC x hx y hy => hRa x hx y ((me y).mp ?_), bk.ord⟩
        rcases List.mem_append.mp hC with hC | hC
        · exact List.mem_append_left _ (List.mem_flatten.mpr ⟨C, hC, hy⟩)
        · rw [List.mem_singleton.mp hC] at hy; exact List.mem_append_right _ hy
      · rw [List.flatten_cons, List.append_assoc] at hy
        rcases List.mem_append.mp hy with hy | hy
        · refine hb.few y ?_
          rw [fl]
          rcases (mg.mem y).mp hy with h1 | h1 <;> simp [h1]
        · exact bk.few y hy
      · have := me z
        simp only [List.flatten_cons, List.mem_append] at this ⊢
        rw [mg.mem z]
        constructor
        · rintro (((h | h) | h) | h)
          · exact .inl (.inl h)
          · exact .inl (.inr (.inl h))
          · rcases this.mp (.inl h) with h | h
            · exact .inl (.inr (.inr h))
            · exact .inr h
          · rcases this.mp (.inr h) with h | h
            · exact .inl (.inr (.inr h))
            · exact .inr h
        · rintro ((h | h | h) | h)
          · exact .inl (.inl (.inl h))
          · exact .inl (.inl (.inr h))
          · rcases this.mpr (.inl h) with h | h
            · exact .inl (.inr h)
            · exact .inr h
          · rcases this.mpr (.inr h) with h | h
            · exact .inl (.inr h)
            · exact .inr h
      · simp only [List.flatten_cons, List.length_append]; omega
      · rw [slices_stableCmpFunc_int.l2_eq hJ]
        rw [la.1, lb.1, show X.length + bs + bs = X.length + 2 * bs by omega] at e1
        rw [List.length_append, lr] at e
        have st : S h id (X ++ (A ++ (B ++ F.flatten) ++ L)) = S h id (X ++ (A ++ (B ++ (F.flatten ++ L)))) := by simp
        rw [st]
        simp only [leqN, decide_eq_true (show X.length + 2 * bs ≤ n by omega), bind_some', condV_true, addN (show X.length < 2 ^ 60 by omega) (show bs < 2 ^ 60 by omega), SL_canon, canon_int, hc.canon, e1, retOr_ret, mul2, addN (show X.length + 2 * bs < 2 ^ 60 by omega) (show 2 * bs < 2 ^ 60 by omega)]
        have s2 : X ++ (R ++ (F.flatten ++ L)) = (X ++ R) ++ (F.flatten ++ L) := by simp
        have s3 : X ++ ((R :: F').flatten ++ L') = (X ++ R) ++ (F'.flatten ++ L') := by simp
        rw [s2, s3]
        exact e
    | [A], hm, hb, ht =>
      have la := hb.full A (by simp)
      have ll := hb.last
      have fl : ([A] : List (List Nat)).flatten = A := by simp
      rw [fl] at ht ⊢
      have hAL : Ahead A L := by
        have := hb.ord
        simp only [List.cons_append, List.nil_append] at this
        exact (List.pairwise_cons.mp this).1 L (by simp)
      by_cases hL : 0 < L.length
      · obtain ⟨R, mg, e1⟩ := sym_den hc s hid hn (A.length + L.length) X A L [] (Nat.le_refl _) (by omega) hL la.2 ll.2 hAL (fun y hy => hb.few y (by rw [fl]; simp [hy])) (by simp; omega)
        refine ⟨[], R, ⟨fun C hC => (nomatch hC), ⟨by rw [mg.len]; omega, mg.up⟩, List.pairwise_singleton _ _, fun y hy => ?_⟩, fun z => ?_, by simp [mg.len], ?_⟩
        · simp only [List.flatten_nil, List.nil_append] at hy
          refine hb.few y ?_
          rw [fl]
          rcases (mg.mem y).mp hy with h1 | h1 <;> simp [h1]
        · simp only [List.flatten_nil, List.nil_append, List.mem_append]; exact mg.mem z
        · rw [slices_stableCmpFunc_int.l2_eq hJ]
          rw [la.1, show X.length + bs + L.length = n by omega] at e1
          simp only [List.append_nil] at e1
          simp only [leqN, decide_eq_false (show ¬ X.length + 2 * bs ≤ n by omega), bind_some', condV_false, addN (show X.length < 2 ^ 60 by omega) (show bs < 2 ^ 60 by omega), lssN, decide_eq_true (show X.length + bs < n by omega), condV_true, SL_canon, canon_int, hc.canon, e1, retOr_ret, mulB]
          simp only [List.flatten_nil, List.nil_append]
      · have hL0 : L = [] := List.eq_nil_of_length_eq_zero (by omega)
        subst hL0
        refine ⟨[], A, ⟨fun C hC => (nomatch hC), ⟨by omega, la.2⟩, List.pairwise_singleton _ _, fun y hy => hb.few y (by rw [fl]; simpa using hy)⟩, fun z => by simp, by simp, ?_⟩
        rw [slices_stableCmpFunc_int.l2_eq hJ]
        simp only [List.length_nil] at ht
        simp only [leqN, decide_eq_false (show ¬ X.length + 2 * bs ≤ n by omega), bind_some', condV_false, addN (show X.length < 2 ^ 60 by omega) (show bs < 2 ^ 60 by omega), lssN, decide_eq_false (show ¬ X.length + bs < n by omega), mulB]
        simp only [List.flatten_nil, List.nil_append, List.append_nil]
    | [], hm, hb, ht =>
      have ll := hb.last
      simp only [List.flatten_nil, List.length_nil, Nat.zero_add] at ht
      refine ⟨[], L, ⟨fun C hC => (nomatch hC), ⟨by omega, ll.2⟩, List.pairwise_singleton _ _, hb.few⟩, fun z => Iff.rfl, rfl, ?_⟩
      rw [slices_stableCmpFunc_int.l2_eq hJ]
      simp only [leqN, decide_eq_false (show ¬ X.length + 2 * bs ≤ n by omega), bind_some', condV_false, addN (show X.length < 2 ^ 60 by omega) (show bs < 2 ^ 60 by omega), lssN, decide_eq_false (show ¬ X.length + bs < n by omega), mulB]
theorem merges_loop (hJ : slices_stableCmpFunc_int.F D k J) (hc : CmpOk f id h lt N) (s : Strict lt) (hid : id < h.length) (hn : n ≤ 2 ^ 40) (hk : n < k) : ∀ (m bs : Nat) (F : List (List Nat)) (L : List Nat), 0 < bs → n - bs < m → bs ≤ 2 ^ 41 → Blk lt N bs F L → F.flatten.length + L.length = n →
    ∃ R, IsSort lt R (F.flatten ++ L) ∧ slices_stableCmpFunc_int.l1 J m (SL id n) (.int .i64 (n : Int)) f (.int .i64 (bs : Int)) (S h id (F.flatten ++ L)) = some (.ret (.tuple []), S h id R)
  | m + 1, bs, F, L, h0, hm, hbs, hb, ht => by
    have mul2 : bin .mul (.int .i64 2) (.int .i64 (bs : Int)) = some (.int .i64 ((2 * bs : Nat) : Int)) := by
      rw [bin_mul, wrap_i64 (by omega) (by omega)]; rfl
    by_cases hlt : bs < n
    · have hfl : F.length ≤ n := by
        have : F.length * bs ≤ F.flatten.length := by
          rw [List.length_flatten]
          clear ht hm
          have hf := hb.full
          clear hb
          induction F with
          | nil => simp
          | cons A F ih =>
            have := ih (fun C hC => hf C (List.mem_cons_of_mem _ hC))
            have l1 := (hf A (by simp)).1
            simp only [List.length_cons, List.map_cons, List.sum_cons, Nat.add_mul]
            omega
        have h2 : F.length * 1 ≤ F.length * bs := Nat.mul_le_mul_left _ h0
        omega
      obtain ⟨F', L', bk, me, le, e1⟩ := pass_loop hJ hc s hid hn (m0 := m) h0 hbs k F L [] (by omega) hb (by simp only [List.length_nil]; omega)
      obtain ⟨R, so, e2⟩ := merges_loop hJ hc s hid hn hk m (bs * 2) F' L' (by omega) (by omega) (by omega) bk (by omega)
      refine ⟨R, ⟨so.up, fun z => (so.mem z).trans (me z), ?_⟩, ?_⟩
      · rw [so.len, List.length_append, List.length_append, le]
      · rw [slices_stableCmpFunc_int.l1_eq hJ]
        simp only [lssN, decide_eq_true hlt, bind_some', condV_true, mul2]
        simp only [List.length_nil, Nat.zero_add, List.nil_append] at e1
        exact e1.trans e2
    · refine ⟨F.flatten ++ L, ⟨?_, fun z => Iff.rfl, rfl⟩, ?_⟩
      · match F, hb, ht with
        | [], hb, _ => simpa using hb.last.2
        | [A], hb, ht =>
          have la := hb.full A (by simp)
          simp at ht
          have : L = [] := List.eq_nil_of_length_eq_zero (by omega)
          subst this
          simpa using la.2
        | A :: B :: F, hb, ht =>
          have la := hb.full A (by simp)
          have lb := hb.full B (by simp)
          simp only [List.flatten_cons, List.length_append] at ht
          omega
      · rw [slices_stableCmpFunc_int.l1_eq hJ]
        simp only [lssN, decide_eq_false hlt, bind_some', condV_false]
theorem blocks_loop (hJ : slices_stableCmpFunc_int.F D k J) (hc : CmpOk f id h lt N) (s : Strict lt) (hid : id < h.length) (hn : n ≤ 2 ^ 40) (hk : n < k) : ∀ (m : Nat) (F : List (List Nat)) (T : List Nat), T.length < m → (∀ A ∈ F, A.length = 20 ∧ Up lt A) → F.Pairwise Ahead → (∀ x ∈ F.flatten, ∀ y ∈ T, x < y) → (∀ x ∈ F.flatten, x < N) → T.Pairwise (· < ·) → (∀ y ∈ T, y < N) → F.flatten.length + T.length = n →
    ∃ R, IsSort lt R (F.flatten ++ T) ∧ slices_stableCmpFunc_int.l0 J m (SL id n) (.int .i64 (n : Int)) f (.int .i64 20) (.int .i64 (F.flatten.length : Int)) (.int .i64 ((F.flatten.length + 20 : Nat) : Int)) (S h id (F.flatten ++ T)) = some (.ret (.tuple []), S h id R)
  | m + 1, F, T, hm, hf, ho, hx, hxN, hs, hN, ht => by
    rw [slices_stableCmpFunc_int.l0_eq hJ]
    have a20 : bin .add (.int .i64 ((F.flatten.length + 20 : Nat) : Int)) (.int .i64 20) = some (.int .i64 ((F.flatten.length + 20 + 20 : Nat) : Int)) := addN (j := 20) (by omega) (by decide)
    by_cases hb : F.flatten.length + 20 ≤ n
    · have dT : T = T.take 20 ++ T.drop 20 := (List.take_append_drop 20 T).symm
      have l1 : (T.take 20).length = 20 := by rw [List.length_take]; omega
      have l2 : (T.drop 20).length = T.length - 20 := List.length_drop
      generalize hT1 : T.take 20 = T1 at *
      generalize hT2 : T.drop 20 = T2 at *
      have sT := List.pairwise_append.mp (dT ▸ hs)
      obtain ⟨W, so, e1⟩ := ins_den hc s hid hn (P := F.flatten) (T := T1) (R := T2) sT.1 (fun y hy => hN y (by rw [dT]; exact List.mem_append_left _ hy)) (by omega)
      have lw : W.length = 20 := by rw [so.len]; exact l1
      have fl : (F ++ [W]).flatten = F.flatten ++ W := by simp
      obtain ⟨R, sr, e2⟩ := blocks_loop hJ hc s hid hn hk m (F ++ [W]) T2 (by omega) (fun A hA => by
        rcases List.mem_append.mp hA with hA | hA
        · exact hf A hA
        · rw [List.mem_singleton.mp hA]; exact ⟨lw, so.up⟩) (List.pairwise_append.mpr ⟨ho, List.pairwise_singleton _ _, fun A hA B hB x hx' y hy => by
          rw [List.mem_singleton.mp hB] at hy
          exact hx x (List.mem_flatten.mpr ⟨A, hA, hx'⟩) y (by rw [dT]; exact List.mem_append_left _ ((so.mem y).mp hy))⟩) (fun x hx' y hy => by
        rw [fl] at hx'
        rcases List.mem_append.mp hx' with h1 | h1
        · exact hx x h1 y (by rw [dT]; exact List.mem_append_right _ hy)
        · exact sT.2.2 x ((so.mem x).mp h1) y hy) (fun x hx' => by
        rw [fl] at hx'
        rcases List.mem_append.mp hx' with h1 | h1
        · exact hxN x h1
        · exact hN x (by rw [dT]; exact List.mem_append_left _ ((so.mem x).mp h1))) sT.2.1 (fun y hy => hN y (by rw [dT]; exact List.mem_append_right _ hy)) (by rw [fl, List.length_append]; omega)
      refine ⟨R, ⟨sr.up, fun z => ?_, ?_⟩, ?_⟩
      · rw [sr.mem z, fl, dT]
        simp only [List.mem_append, so.mem z]
        constructor
        · rintro ((h | h) | h)
          · exact .inl h
          · exact .inr (.inl h)
          · exact .inr (.inr h)
        · rintro (h | h | h)
          · exact .inl (.inl h)
          · exact .inl (.inr h)
          · exact .inr h
      · rw [sr.len, fl, dT]; simp only [List.length_append]; omega
      · rw [l1] at e1
        rw [fl, List.length_append, lw] at e2
        rw [show F.flatten ++ W ++ T2 = F.flatten ++ (W ++ T2) by simp] at e2
        rw [leqN, decide_eq_true hb, dT]
        simp only [bind_some', condV_true, SL_canon, canon_int, hc.canon, e1, retOr_ret, a20]
        exact e2
    · obtain ⟨W, so, e1⟩ := ins_den hc s hid hn (P := F.flatten) (T := T) (R := []) hs hN (by simp only [List.length_nil]; omega)
      have lw : W.length = T.length := so.len
      have bk : Blk lt N 20 F W := ⟨hf, ⟨by omega, so.up⟩, List.pairwise_append.mpr ⟨ho, List.pairwise_singleton _ _, fun A hA B hB x hx' y hy => by
          rw [List.mem_singleton.mp hB] at hy
          exact hx x (List.mem_flatten.mpr ⟨A, hA, hx'⟩) y ((so.mem y).mp hy)⟩, fun y hy => by
          rcases List.mem_append.mp hy with h1 | h1
          · exact hxN y h1
          · exact hN y ((so.mem y).mp h1)⟩
      obtain ⟨R, sr, e2⟩ := merges_loop hJ hc s hid hn hk k 20 F W (by decide) (by omega) (by decide) bk (by omega)
      refine ⟨R, ⟨sr.up, fun z => by rw [sr.mem z, List.mem_append, List.mem_append, so.mem z], by rw [sr.len, List.length_append, List.length_append, lw]⟩, ?_⟩
      rw [ht] at e1
      simp only [List.append_nil] at e1
      rw [leqN, decide_eq_false hb]
      simp only [bind_some', condV_false, SL_canon, canon_int, hc.canon, e1, retOr_ret]
      exact e2
theorem stable_den (hc : CmpOk f id h lt N) (s : Strict lt) (hid : id < h.length) {T : List Nat} (hn : T.length ≤ 2 ^ 40) (hs : T.Pairwise (· < ·)) (hN : ∀ y ∈ T, y < N) :
    ∃ R, IsSort lt R T ∧ D n_slices_SortStableFunc_int_int [SL id T.length, f] (S h id T) = some (.ret (.tuple []), S h id R) := by
  obtain ⟨R, so, e⟩ := blocks_loop (slices_stableCmpFunc_int.fx (T.length + 1)) hc s hid hn (Nat.lt_succ_self _) (T.length + 1) [] T (Nat.lt_succ_self _) (fun _ h => nomatch h) List.Pairwise.nil (fun _ h => nomatch h) (fun _ h => nomatch h) hs hN (by simp)
  refine ⟨R, so, ?_⟩
  have d1 : D n_slices_stableCmpFunc_int [SL id T.length, .int .i64 (T.length : Int), f] (S h id T) = some (.ret (.tuple []), S h id R) := by
    refine slices_stableCmpFunc_int.den (T.length + 1) ?_ rfl
    rw [slices_stableCmpFunc_int.f_eq (slices_stableCmpFunc_int.fx _)]
    exact e
  refine slices_SortStableFunc_int_int.den 1 ?_ rfl
  rw [slices_SortStableFunc_int_int.f_eq (slices_SortStableFunc_int_int.fx _)]
  have ln : lnSl (SL id T.length) = some (.int .i64 (T.length : Int)) := rfl
  simp only [ln, bind_some', SL_canon, canon_int, hc.canon, d1, retOr_ret]
end
end Go.Proofs.Ytdggnlgklicbdaa

open Go Go.Ve Go.Proofs
namespace Go.Proofs.Ytdggnlgklicbdaa
set_option maxRecDepth 100000
set_option linter.all false
structure Alarm where
  kind : Int
  sev : Int
  func : List UInt8
  file : List UInt8
  line : Int
  expr : List UInt8
  deriving DecidableEq
def Alarm.c (a : Alarm) : List AV := [.int .i64 a.kind, .int .i64 a.sev, .str a.func, .str a.file, .int .i64 a.line, .str a.expr]
@[simp] theorem Alarm.c_len (a : Alarm) : a.c.length = 6 := by simp [Alarm.c]
@[simp] theorem Alarm.c_pure (a : Alarm) : pureL a.c = true := by simp [Alarm.c]
@[simp] theorem Alarm.c_one (a : Alarm) : a.c.all AV.one = true := by simp [Alarm.c]
@[simp] theorem Alarm.c_copy (a : Alarm) : a.c.map AV.copyCell = a.c := rfl
@[simp] theorem Alarm.c_canon (a : Alarm) : a.c.map AV.canonCell = a.c := rfl
@[simp] theorem Alarm.agg (a : Alarm) : aggAt 6 a.c 0 = some (.agg a.c) := aggAt_all rfl
abbrev AL (l : List Alarm) (o : Own := .no) : AV := .list (l.map Alarm.c) o
@[simp] theorem Alarm.l_pure (l : List Alarm) : pureR (l.map Alarm.c) = true := pureR_map Alarm.c_pure
theorem AL_len (l : List Alarm) (o : Own) : lnSl (AL l o) = some (.int .i64 l.length) := by simp [AL]
theorem AL_at {k : IntKind} {l : List Alarm} {o : Own} {i : Nat} (hi : i < l.length) : ixSlice 6 (AL l o) (.int k i) = some (.rptr l[i].c 0) := ixSlice_map hi Alarm.c_len
theorem AL_canon (l : List Alarm) (o : Own) : AV.canon (AL l o) = AL l := rfl
theorem Alarm.f0 (a : Alarm) : a.c[0 + 0]? = some (.int .i64 a.kind) := rfl
theorem Alarm.f1 (a : Alarm) : a.c[0 + 1]? = some (.int .i64 a.sev) := rfl
theorem Alarm.f2 (a : Alarm) : a.c[0 + 2]? = some (.str a.func) := rfl
theorem Alarm.f3 (a : Alarm) : a.c[0 + 3]? = some (.str a.file) := rfl
theorem Alarm.f4 (a : Alarm) : a.c[0 + 4]? = some (.int .i64 a.line) := rfl
theorem Alarm.f5 (a : Alarm) : a.c[0 + 5]? = some (.str a.expr) := rfl
structure Alarm.Fits (a : Alarm) : Prop where
  kind : a.kind < 2 ^ 63
  func : a.func.length ≤ 2 ^ 30
  file : a.file.length ≤ 2 ^ 30
  expr : a.expr.length ≤ 2 ^ 30
def fstep (s : Int) (b : UInt8) : Int := IntKind.u64.wrap (IntKind.u64.wrap ((BitVec.ofInt 64 s ^^^ BitVec.ofInt 64 (b.toNat : Int)).toNat) * 1099511628211)
def fnvN (s : Int) (b : Tx) : Int := b.foldl fstep s
theorem fnvN_app (s : Int) (a b : Tx) : fnvN s (a ++ b) = fnvN (fnvN s a) b := List.foldl_append ..
theorem bv_u64 (b : UInt8) : cvInt .u64 (bv b) = some (.int .u64 (b.toNat : Int)) := by
  have := b.toNat_lt
  rw [bv, cvInt_int, wrap_u64 (by omega) (by omega)]
theorem fstep_ok (s : Int) (b : UInt8) : (bin .xor (.int .u64 s) (.int .u64 (b.toNat : Int))).bind (fun v => bin .mul v (.int .u64 1099511628211)) = some (.int .u64 (fstep s b)) := by
  rw [bin_xor]
  rfl
theorem more_loop {J : Jn (AEnd × H)} {k : Nat} (hJ : fnv_More.F D k J) (l : Tx) (hl : l.length ≤ 2 ^ 50) (h : H) : ∀ (d i m : Nat) (s : Int), i + d = l.length → d < m →
    fnv_More.l0 J m (.int .u64 s) (BL l) (.int .i64 (l.length : Int)) (.int .i64 (i : Int)) h = some (.ret (.int .u64 (fnvN s (l.drop i))), h)
  | 0, i, m + 1, s, hi, _ => by
    rw [fnv_More.l0_eq hJ]
    simp only [lssN, decide_eq_false (show ¬ i < l.length by omega), bind_some', condV_false]
    rw [List.drop_of_length_le (by omega)]; rfl
  | d + 1, i, m + 1, s, hi, hm => by
    have hil : i < l.length := by omega
    have ih := more_loop hJ l hl h d (i + 1) m (fstep s l[i]) (by omega) (by omega)
    rw [fnv_More.l0_eq hJ, List.drop_eq_getElem_cons hil]
    simp only [lssN, decide_eq_true hil, bind_some', condV_true, BL_at hil, ldCell_rptr, byteRow_0, bv_u64]
    have e := fstep_ok s l[i]
    cases hx : bin .xor (.int .u64 s) (.int .u64 (l[i].toNat : Int)) with
    | none => rw [hx] at e; cases e
    | some v =>
      rw [hx, bind_some'] at e
      simp only [bind_some', e, add1 i (by omega)]
      exact ih
theorem more_den (s : Int) (l : Tx) (o : Own) (hl : l.length ≤ 2 ^ 50) (h : H) : D n_fnv_More [.int .u64 s, BL l] h = some (.ret (.int .u64 (fnvN s l)), h) := by
  refine fnv_More.den (l.length + 1) (by simp [pureL, AV.pure]) (h' := []) ?_ rfl rfl
  rw [fnv_More.f_eq (fnv_More.fx _), BL_len]
  exact more_loop (fnv_More.fx _) l hl [] l.length 0 _ s (by omega) (by omega)
def fnv0 : Int := 14695981039346656037
theorem sum_den (l : Tx) (hl : l.length ≤ 2 ^ 50) (h : H) : D n_fnv_Sum [BL l] h = some (.ret (.int .u64 (fnvN fnv0 l)), h) := by
  refine fnv_Sum.den 1 (by simp) (h' := []) ?_ rfl rfl
  rw [fnv_Sum.f_eq (fnv_Sum.fx _)]
  simp only [canon_int, BL_canon]
  rw [show (.int .u64 14695981039346656037 : AV) = .int .u64 fnv0 from rfl, more_den fnv0 l .no hl]
  simp only [bind_some', retOr_ret]
theorem nrm_len : ∀ (b : Bool) (l : List Tx), (nrm b l).length ≤ l.length + (l.map List.length).sum
  | _, [] => by simp [nrm]
  | b, p :: ps => by
    have := nrm_len (wordB (p.headD 0)) ps
    simp only [nrm, List.length_append, List.length_cons, List.map_cons, List.sum_cons]
    split <;> simp only [List.length_cons, List.length_nil] <;> omega
theorem normN_len (s : Tx) : (normN s).length ≤ 2 * s.length := by
  have h1 := nrm_len false (prts s)
  have h2 := prts_len s
  have h3 := prtF_sum s.length s
  unfold normN
  unfold prts at *
  omega
theorem ixStr_at {s : Tx} {k : IntKind} {i : Nat} (h : i < s.length) : ixStr (.str s) (.int k (i : Int)) = some (bv s[i]) := by
  simp [ixStr, natOf, h]
theorem TL_len (l : List Tx) (o : Own) : lnSl (TL l o) = some (.int .i64 l.length) := by simp [TL]
theorem TL_at {k : IntKind} {l : List Tx} {o : Own} {i : Nat} (hi : i < l.length) : ixSlice 1 (TL l o) (.int k i) = some (.rptr (txRow l[i]) 0) := ixSlice_map hi (fun _ => rfl)
theorem tx0 (s : Tx) : (txRow s)[0]? = some (.str s) := rfl
theorem str_add {a b : Tx} (h : a.length + b.length < 2 ^ 62) : bin .add (.str a) (.str b) = some (.str (a ++ b)) := by
  rw [bin_str]
  unfold strBin
  rw [if_pos h]
theorem rn_loop {J : Jn (AEnd × H)} {k : Nat} (hJ : ref18_Norm.F D k J) (l : List Tx) (hl : l.length ≤ 2 ^ 43) (hne : ∀ p ∈ l, p ≠ []) (h : H) : ∀ (d i m : Nat) (acc : Tx) (last : Bool), i + d = l.length → d < m → acc.length + ((l.drop i).map List.length).sum + d ≤ 2 ^ 44 →
    ref18_Norm.l0 J m (.str acc) (.bool last) (TL l) (.int .i64 (i : Int)) h = some (.ret (.str (acc ++ nrm last (l.drop i))), h)
  | 0, i, m + 1, acc, last, hi, _, _ => by
    rw [ref18_Norm.l0_eq hJ]
    simp only [TL_len, lssN, decide_eq_false (show ¬ i < l.length by omega), bind_some', condV_false, copy_str]
    rw [List.drop_of_length_le (by omega)]
    cases last <;> simp [nrm]
  | d + 1, i, m + 1, acc, last, hi, hm, hs => by
    have hil : i < l.length := by omega
    have hp : l[i] ≠ [] := hne _ (List.getElem_mem _)
    have hp0 : 0 < l[i].length := List.length_pos_iff.mpr hp
    have hd : l.drop i = l[i] :: l.drop (i + 1) := List.drop_eq_getElem_cons hil
    have h0 : l[i][0] = l[i].headD 0 := by
      have key : ∀ (p : Tx) (hp : 0 < p.length), p[0] = p.headD 0 := fun p hp => by
        cases p with
        | nil => exact absurd hp (Nat.lt_irrefl 0)
        | cons c p => rfl
      exact key _ hp0
    have ix0 : ixStr (.str l[i]) (.int .i64 0) = some (bv (l[i].headD 0)) := by rw [← h0]; exact ixStr_at (i := 0) hp0
    rw [hd] at hs
    simp only [List.map_cons, List.sum_cons] at hs
    have ih := fun (acc : Tx) hs => rn_loop hJ l hl hne h d (i + 1) m acc (wordB (l[i].headD 0)) (by omega) (by omega) hs
    have j0 : ∀ (a2 : Tx), a2.length ≤ acc.length + 1 → ref18_Norm.j0 J m (.str a2) (TL l) (.int .i64 (i : Int)) (.bool (wordB (l[i].headD 0))) h = some (.ret (.str (a2 ++ (l[i] ++ nrm (wordB (l[i].headD 0)) (l.drop (i + 1))))), h) := by
      intro a2 ha
      rw [ref18_Norm.j0_eq hJ]
      simp only [TL_at hil, bind_some', ldCell_rptr, tx0, str_add (show a2.length + l[i].length < 2 ^ 62 by omega), add1 i (by omega)]
      rw [ih (a2 ++ l[i]) (by rw [List.length_append]; omega), List.append_assoc]
    rw [ref18_Norm.l0_eq hJ, hd]
    simp only [TL_len, lssN, decide_eq_true hil, bind_some', condV_true, TL_at hil, ldCell_rptr, tx0, ix0]
    rw [show AV.canon (bv (l[i].headD 0)) = bv (l[i].headD 0) from rfl, word_tab]
    simp only [bind_some', retOr_ret, nrm]
    have e1 : ∀ b : Bool, ref18_Norm.j1 J m (.str acc) (TL l) (.int .i64 (i : Int)) (.bool (wordB (l[i].headD 0))) (.bool b) h = some (.ret (.str (acc ++ ((if b = true then [32] else []) ++ l[i] ++ nrm (wordB (l[i].headD 0)) (l.drop (i + 1))))), h) := by
      intro b
      rw [ref18_Norm.j1_eq hJ]
      cases b with
      | false =>
        rw [condV_false, j0 acc (by omega)]
        simp
      | true =>
        rw [condV_true, str_add (show acc.length + 1 < 2 ^ 62 by omega), bind_some', j0 _ (by simp)]
        simp
    cases last with
    | false => rw [condV_false, e1]; simp
    | true => rw [condV_true, e1]; simp
theorem rnorm_den (s : Tx) (hs : s.length ≤ 2 ^ 40) (h : H) : D n_warrantorref18_Norm [.str s] h = some (.ret (.str (normN s)), h) := by
  have h2 := prts_len s
  have h3 : ((prts s).map List.length).sum ≤ s.length := prtF_sum s.length s
  refine ref18_Norm.den ((prts s).length + 1) rfl (h' := []) ?_ rfl rfl
  rw [ref18_Norm.f_eq (ref18_Norm.fx _)]
  simp only [canon_str, parts_den s (by omega), bind_some', retOr_ret]
  rw [show (.int .i64 0 : AV) = .int .i64 ((0 : Nat) : Int) from rfl, rn_loop (ref18_Norm.fx _) (prts s) (by omega) (fun p hp => prtF_ne _ _ p hp) [] (prts s).length 0 _ [] false (by omega) (by omega) (by rw [List.drop_zero]; simp only [List.length_nil]; omega)]
  rfl
def pos (z : Int) : Nat := z.toNat
theorem max0 (z : Int) : maxMinAll true [.int .i64 z, .int .i64 0] = some (.int .i64 ((pos z : Nat) : Int)) := by
  show some (AV.int .i64 (if z < 0 then 0 else z)) = _
  congr 2
  unfold pos
  split <;> omega
theorem i64_u64 {n : Nat} (h : n < 2 ^ 63) : cvInt .u64 (.int .i64 (n : Int)) = some (.int .u64 (n : Int)) := by rw [cvInt_int, wrap_u64 (by omega) (by omega)]
def keyN (a : Alarm) : Tx := lebB (pos a.kind) ++ txB a.func ++ txB (normN a.expr)
theorem keyN_len (a : Alarm) (f : a.Fits) : (keyN a).length ≤ 2 ^ 33 := by
  have hk : pos a.kind < 2 ^ 63 := by have := f.kind; unfold pos; omega
  have h1 := lebB_10 (n := pos a.kind) (by omega)
  have h2 := f.func
  have h3 := f.expr
  have h4 := normN_len a.expr
  have h5 := lebB_10 (n := a.func.length) (by omega)
  have h6 := lebB_10 (n := (normN a.expr).length) (by omega)
  simp only [keyN, txB, List.length_append]
  omega
theorem nkey_den (a : Alarm) (f : a.Fits) (h : H) : D n_norm_Key [.int .i64 a.kind, .str a.func, .str a.expr] h = some (.ret (BL (keyN a) (.own 1)), h) := by
  have hk : pos a.kind < 2 ^ 63 := by have := f.kind; unfold pos; omega
  have l1 := lebB_10 (n := pos a.kind) (by omega)
  have h2 := f.func
  have h3 := f.expr
  have h4 := normN_len a.expr
  have h5 := lebB_10 (n := a.func.length) (by omega)
  have h6 := keyN_len a f
  obtain ⟨w1, e1, k1, p1⟩ := new_den ([] : H)
  obtain ⟨w2, e2, k2, p2⟩ := penU_den w1 0 (pos a.kind) [] p1 (by omega) (by simp)
  obtain ⟨w3, e3, k3, p3⟩ := penText_den w2 0 _ a.func p2 (by simp; omega)
  obtain ⟨w4, e4, k4, p4⟩ := penText_den w3 0 _ (normN a.expr) p3 (by simp [txB]; omega)
  have e5 := penBytes_den w4 0 _ p4 (by simp only [keyN] at h6; simp only [List.nil_append]; omega)
  refine norm_Key.den 1 rfl (h' := w4) ?_ (by simp [AV.pure]) rfl
  rw [norm_Key.f_eq (norm_Key.fx 1)]
  simp only [e1, bind_some', retOr_ret, max0, i64_u64 hk, canon_int, canon_str, List.length_nil, canon_ptr, e2, e3, norm_den a.expr (by omega), e4, e5]
  rfl
theorem bx_alarm (a : Alarm) (h : H) : bx h (AV.copy (.agg a.c)) = some (.ptr h.length 0, h ++ [.arr a.c false]) := by rw [copy_agg, Alarm.c_copy, bx_agg a.c_one]
theorem key_den (a : Alarm) (f : a.Fits) (h : H) : D n_finger_key [.agg a.c] h = some (.ret (BL (keyN a) (.own 1)), h) := by
  refine finger_key.den 1 (by simp [pureL, AV.pure]) (h' := [.arr a.c false]) ?_ (by simp [AV.pure]) rfl
  rw [finger_key.f_eq (finger_key.fx 1), bx_alarm]
  have g : ([AObj.arr a.c false] : H)[0]? = some (.arr a.c false) := rfl
  simp only [bind_some', List.length_nil, List.nil_append, fAddr_ptr, ld_at g, a.f0, a.f2, a.f5, canon_int, canon_str, nkey_den a f, retOr_ret]
def oneN (a : Alarm) (r : Int) : Int := fnvN fnv0 (keyN a ++ lebB (pos r))
theorem one_den (a : Alarm) (f : a.Fits) (r : Int) (hr : r < 2 ^ 63) (h : H) : D n_finger_One [.agg a.c, .int .i64 r] h = some (.ret (.int .u64 (oneN a r)), h) := by
  have hk : pos r < 2 ^ 63 := by unfold pos; omega
  have l1 := lebB_10 (n := pos r) (by omega)
  have l2 := keyN_len a f
  refine finger_One.den 1 (by simp [pureL, AV.pure]) (h' := [.arr a.c false]) ?_ rfl rfl
  rw [finger_One.f_eq (finger_One.fx 1), bx_alarm]
  have g : ([AObj.arr a.c false] : H)[0]? = some (.arr a.c false) := rfl
  simp only [bind_some', List.length_nil, List.nil_append, ldA_at g, Alarm.agg, canon_agg, Alarm.c_canon, key_den a f, retOr_ret, BL_canon, sum_den (keyN a) (by omega), max0, i64_u64 hk, canon_int, leb_Put_den (pos r) (by omega), more_den _ (lebB (pos r)) .no (by omega)]
  rw [oneN, fnvN_app]
end Go.Proofs.Ytdggnlgklicbdaa

open Go Go.Ve Go.Proofs
namespace Go.Proofs.Ytdggnlgklicbdaa
set_option maxRecDepth 100000
set_option linter.all false
structure Good {α : Type} (c : α → α → Int) : Prop where
  sym : ∀ a b, c b a = - c a b
  tr : ∀ {a b d}, c a b < 0 → c b d < 0 → c a d < 0
  eq : ∀ {a b}, c a b = 0 → ∀ d, c a d = c b d
theorem Good.eq' {α : Type} {c : α → α → Int} (g : Good c) {a b : α} (h : c a b = 0) (d : α) : c d a = c d b := by
  rw [g.sym a d, g.sym b d, g.eq h d]
theorem Good.refl {α : Type} {c : α → α → Int} (g : Good c) (a : α) : c a a = 0 := by have := g.sym a a; omega
def tcmp (a b : Tx) : Int := if a < b then -1 else if b < a then 1 else 0
def icmp (a b : Int) : Int := if a < b then -1 else if b < a then 1 else 0
theorem tcmp_lt {a b : Tx} : tcmp a b < 0 ↔ a < b := by
  unfold tcmp
  split
  · simp [*]
  · split <;> simp [*]
theorem tcmp_eq {a b : Tx} : tcmp a b = 0 ↔ a = b := by
  unfold tcmp
  rcases tx_tri a b with h | h | h
  · rw [if_pos h]; exact ⟨fun e => by omega, fun e => absurd (e ▸ h) (tx_irrefl b)⟩
  · subst h; rw [if_neg (tx_irrefl a), if_neg (tx_irrefl a)]; simp
  · rw [if_neg (tx_asymm h), if_pos h]; exact ⟨fun e => by omega, fun e => absurd (e ▸ h) (tx_irrefl b)⟩
theorem tcmp_good : Good tcmp where
  sym a b := by
    unfold tcmp
    rcases tx_tri a b with h | h | h
    · simp [h, tx_asymm h]
    · subst h; simp [tx_irrefl a]
    · simp [h, tx_asymm h]
  tr h1 h2 := tcmp_lt.mpr (tx_trans (tcmp_lt.mp h1) (tcmp_lt.mp h2))
  eq h d := by rw [tcmp_eq.mp h]
theorem icmp_lt {a b : Int} : icmp a b < 0 ↔ a < b := by unfold icmp; split <;> (try split) <;> omega
theorem icmp_eq {a b : Int} : icmp a b = 0 ↔ a = b := by unfold icmp; split <;> (try split) <;> omega
theorem icmp_good : Good icmp where
  sym a b := by unfold icmp; split <;> split <;> (try split) <;> omega
  tr h1 h2 := icmp_lt.mpr (Int.lt_trans (icmp_lt.mp h1) (icmp_lt.mp h2))
  eq h d := by rw [icmp_eq.mp h]
def firstNZ : List Int → Int
  | [] => 0
  | x :: l => if x ≠ 0 then x else firstNZ l
theorem lex_good {α : Type} : ∀ (cs : List (α → α → Int)), (∀ c ∈ cs, Good c) → Good fun a b => firstNZ (cs.map fun c => c a b)
  | [], _ => ⟨fun _ _ => rfl, fun h _ => by simp [firstNZ] at h, fun _ _ => rfl⟩
  | c :: cs, h => by
    have g := h c (by simp)
    have ih := lex_good cs (fun d hd => h d (List.mem_cons_of_mem _ hd))
    have e : ∀ a b, (firstNZ ((c :: cs).map fun c => c a b)) = if c a b ≠ 0 then c a b else firstNZ (cs.map fun c => c a b) := fun a b => rfl
    refine ⟨fun a b => ?_, fun {a b d} h1 h2 => ?_, fun {a b} h1 d => ?_⟩
    · rw [e, e, g.sym a b]
      have := ih.sym a b
      split <;> split <;> omega
    · rw [e] at h1 h2 ⊢
      by_cases ab : c a b = 0
      · rw [if_neg (fun h => h ab)] at h1
        by_cases bd : c b d = 0
        · rw [if_neg (fun h => h bd)] at h2
          have : c a d = 0 := by rw [g.eq ab]; exact bd
          rw [if_neg (fun h => h this)]
          exact ih.tr h1 h2
        · rw [if_pos bd] at h2
          rw [g.eq ab d, if_pos bd]; exact h2
      · rw [if_pos ab] at h1
        by_cases bd : c b d = 0
        · have : c a d = c a b := by rw [g.eq' bd]
          rw [this, if_pos ab]; exact h1
        · rw [if_pos bd] at h2
          have := g.tr h1 h2
          rw [if_pos (by omega)]; exact this
    · rw [e] at h1
      have ab : c a b = 0 := by
        by_cases h : c a b = 0
        · exact h
        · rw [if_pos h] at h1; exact h1
      rw [if_neg (fun h => h ab)] at h1
      rw [e, e, g.eq ab d, ih.eq h1 d]
def cmps (a b : Alarm) : List Int := [tcmp a.file b.file, icmp a.line b.line, tcmp a.func b.func, icmp a.kind b.kind, tcmp a.expr b.expr, icmp a.sev b.sev]
def cmpN (a b : Alarm) : Int := firstNZ (cmps a b)
theorem cmpN_good : Good cmpN := lex_good [fun a b : Alarm => tcmp a.file b.file, fun a b => icmp a.line b.line, fun a b => tcmp a.func b.func, fun a b => icmp a.kind b.kind, fun a b => tcmp a.expr b.expr, fun a b => icmp a.sev b.sev] (by
  intro c hc
  simp only [List.mem_cons, List.not_mem_nil, or_false] at hc
  have ht : ∀ f : Alarm → Tx, Good fun a b => tcmp (f a) (f b) := fun f => ⟨fun a b => tcmp_good.sym _ _, fun h1 h2 => tcmp_good.tr h1 h2, fun h d => tcmp_good.eq h _⟩
  have hi : ∀ f : Alarm → Int, Good fun a b => icmp (f a) (f b) := fun f => ⟨fun a b => icmp_good.sym _ _, fun h1 h2 => icmp_good.tr h1 h2, fun h d => icmp_good.eq h _⟩
  rcases hc with rfl | rfl | rfl | rfl | rfl | rfl
  · exact ht _
  · exact hi _
  · exact ht _
  · exact hi _
  · exact ht _
  · exact hi _)
theorem str_less (a b : Tx) : bin .lss (.str a) (.str b) = some (.bool (decide (a < b))) := by
  rw [bin_str]; show some (AV.bool (Op.bytesLess a b)) = _; rw [less_eq]
theorem str_gtr (a b : Tx) : bin .gtr (.str a) (.str b) = some (.bool (decide (b < a))) := by
  rw [bin_str]
  show some (AV.bool (!(Op.bytesLess a b || a == b))) = _
  rw [less_eq]
  congr 2
  rcases tx_tri a b with h | h | h
  · simp [h, tx_asymm h]
  · subst h; simp [tx_irrefl a]
  · have : a ≠ b := fun e => tx_irrefl a (e ▸ h)
    simp [h, tx_asymm h, this]
theorem str_ne (a b : Tx) : bin .neq (.str a) (.str b) = some (.bool (decide (a ≠ b))) := by rw [bin_str, strBin_neq]
theorem str_eq (a b : Tx) : bin .eql (.str a) (.str b) = some (.bool (decide (a = b))) := by rw [bin_str, strBin_eql]
theorem nanS (s : Tx) (h : H) : D n_cmp_isNaN_string [.str s] h = some (.ret (.bool false), h) := by
  refine cmp_isNaN_string.den 1 rfl (h' := []) ?_ rfl rfl
  rw [cmp_isNaN_string.f_eq (cmp_isNaN_string.fx _), str_ne]
  simp
theorem nanI (z : Int) (h : H) : D n_cmp_isNaN_int [.int .i64 z] h = some (.ret (.bool false), h) := by
  refine cmp_isNaN_int.den 1 rfl (h' := []) ?_ rfl rfl
  rw [cmp_isNaN_int.f_eq (cmp_isNaN_int.fx _), bin_neq]
  simp
theorem compS (a b : Tx) (h : H) : D n_cmp_Compare_string [.str a, .str b] h = some (.ret (.int .i64 (tcmp a b)), h) := by
  refine cmp_Compare_string.den 1 rfl (h' := []) ?_ rfl rfl
  rw [cmp_Compare_string.f_eq (cmp_Compare_string.fx _)]
  simp only [canon_str, nanS, bind_some', retOr_ret, condV_false, str_less, str_gtr, tcmp]
  by_cases h1 : a < b
  · simp only [decide_eq_true h1, condV_true, if_pos h1]
  · by_cases h2 : b < a
    · simp only [decide_eq_false h1, condV_false, decide_eq_true h2, condV_true, if_neg h1, if_pos h2]
    · simp only [decide_eq_false h1, condV_false, decide_eq_false h2, if_neg h1, if_neg h2]
theorem compI (a b : Int) (h : H) : D n_cmp_Compare_int [.int .i64 a, .int .i64 b] h = some (.ret (.int .i64 (icmp a b)), h) := by
  refine cmp_Compare_int.den 1 rfl (h' := []) ?_ rfl rfl
  rw [cmp_Compare_int.f_eq (cmp_Compare_int.fx _)]
  simp only [canon_int, nanI, bind_some', retOr_ret, condV_false, bin_lss, bin_gtr, icmp]
  by_cases h1 : a < b
  · simp only [decide_eq_true h1, condV_true, if_pos h1]
  · by_cases h2 : b < a
    · simp only [decide_eq_false h1, condV_false, decide_eq_true h2, condV_true, if_neg h1, if_pos h2]
    · simp only [decide_eq_false h1, condV_false, decide_eq_false h2, if_neg h1, if_neg h2]
section
variable (a b : Alarm)
theorem two0 : ([AObj.arr a.c false, AObj.arr b.c false] : H)[0]? = some (.arr a.c false) := rfl
theorem two1 : ([AObj.arr a.c false, AObj.arr b.c false] : H)[1]? = some (.arr b.c false) := rfl
theorem c1_den (h : H) : D n_alarm_compares_c1 [.agg a.c, .agg b.c] h = some (.ret (.int .i64 (tcmp a.file b.file)), h) := by
  refine alarm_compares_c1.den 1 (by simp [pureL, AV.pure]) (h' := [.arr a.c false, .arr b.c false]) ?_ rfl rfl
  rw [alarm_compares_c1.f_eq (alarm_compares_c1.fx 1), bx_alarm]
  simp only [bind_some', List.length_nil, List.nil_append, bx_alarm, List.length_singleton, List.singleton_append, fAddr_ptr, ld_at (two0 a b), ld_at (two1 a b), a.f3, b.f3, canon_str, compS, retOr_ret]
theorem c2_den (h : H) : D n_alarm_compares_c2 [.agg a.c, .agg b.c] h = some (.ret (.int .i64 (icmp a.line b.line)), h) := by
  refine alarm_compares_c2.den 1 (by simp [pureL, AV.pure]) (h' := [.arr a.c false, .arr b.c false]) ?_ rfl rfl
  rw [alarm_compares_c2.f_eq (alarm_compares_c2.fx 1), bx_alarm]
  simp only [bind_some', List.length_nil, List.nil_append, bx_alarm, List.length_singleton, List.singleton_append, fAddr_ptr, ld_at (two0 a b), ld_at (two1 a b), a.f4, b.f4, canon_int, compI, retOr_ret]
theorem c3_den (h : H) : D n_alarm_compares_c3 [.agg a.c, .agg b.c] h = some (.ret (.int .i64 (tcmp a.func b.func)), h) := by
  refine alarm_compares_c3.den 1 (by simp [pureL, AV.pure]) (h' := [.arr a.c false, .arr b.c false]) ?_ rfl rfl
  rw [alarm_compares_c3.f_eq (alarm_compares_c3.fx 1), bx_alarm]
  simp only [bind_some', List.length_nil, List.nil_append, bx_alarm, List.length_singleton, List.singleton_append, fAddr_ptr, ld_at (two0 a b), ld_at (two1 a b), a.f2, b.f2, canon_str, compS, retOr_ret]
theorem c4_den (h : H) : D n_alarm_compares_c4 [.agg a.c, .agg b.c] h = some (.ret (.int .i64 (icmp a.kind b.kind)), h) := by
  refine alarm_compares_c4.den 1 (by simp [pureL, AV.pure]) (h' := [.arr a.c false, .arr b.c false]) ?_ rfl rfl
  rw [alarm_compares_c4.f_eq (alarm_compares_c4.fx 1), bx_alarm]
  simp only [bind_some', List.length_nil, List.nil_append, bx_alarm, List.length_singleton, List.singleton_append, fAddr_ptr, ld_at (two0 a b), ld_at (two1 a b), a.f0, b.f0, canon_int, compI, retOr_ret]
theorem c5_den (h : H) : D n_alarm_compares_c5 [.agg a.c, .agg b.c] h = some (.ret (.int .i64 (tcmp a.expr b.expr)), h) := by
  refine alarm_compares_c5.den 1 (by simp [pureL, AV.pure]) (h' := [.arr a.c false, .arr b.c false]) ?_ rfl rfl
  rw [alarm_compares_c5.f_eq (alarm_compares_c5.fx 1), bx_alarm]
  simp only [bind_some', List.length_nil, List.nil_append, bx_alarm, List.length_singleton, List.singleton_append, fAddr_ptr, ld_at (two0 a b), ld_at (two1 a b), a.f5, b.f5, canon_str, compS, retOr_ret]
theorem c6_den (h : H) : D n_alarm_compares_c6 [.agg a.c, .agg b.c] h = some (.ret (.int .i64 (icmp a.sev b.sev)), h) := by
  refine alarm_compares_c6.den 1 (by simp [pureL, AV.pure]) (h' := [.arr a.c false, .arr b.c false]) ?_ rfl rfl
  rw [alarm_compares_c6.f_eq (alarm_compares_c6.fx 1), bx_alarm]
  simp only [bind_some', List.length_nil, List.nil_append, bx_alarm, List.length_singleton, List.singleton_append, fAddr_ptr, ld_at (two0 a b), ld_at (two1 a b), a.f1, b.f1, canon_int, compI, retOr_ret]
end
abbrev FnC (n : Nat) : AV := .func (.func n) [] []
abbrev cmpL : AV := .list [[FnC n_alarm_compares_c1], [FnC n_alarm_compares_c2], [FnC n_alarm_compares_c3], [FnC n_alarm_compares_c4], [FnC n_alarm_compares_c5], [FnC n_alarm_compares_c6]] .cap
theorem cmpl_den (h : H) : D n_alarm_compares [] h = some (.ret cmpL, h) := by
  refine alarm_compares.den 1 ?_ rfl
  rw [alarm_compares.f_eq (alarm_compares.fx 1)]
  rfl
theorem cmp_den (a b : Alarm) (h : H) : D n_alarm_Cmp [.agg a.c, .agg b.c] h = some (.ret (.int .i64 (cmpN a b)), h) := by
  refine alarm_Cmp.den 7 (by simp [pureL, AV.pure]) (h' := [.arr a.c false, .arr b.c false]) ?_ rfl rfl
  rw [alarm_Cmp.f_eq (alarm_Cmp.fx 7), bx_alarm]
  simp only [bind_some', List.length_nil, List.nil_append, bx_alarm, List.length_singleton, List.singleton_append, cmpl_den, retOr_ret]
  rw [show lnSl cmpL = some (.int .i64 6) from rfl]
  have hJ := alarm_Cmp.fx 7
  have step : ∀ (i m f : Nat) (z : Int), i < 6 → ((ixSlice 1 cmpL (.int .i64 (i : Int))).bind fun p => ldCell ([AObj.arr a.c false, AObj.arr b.c false] : H) p) = some (FnC f) → (∀ h, D f [.agg a.c, .agg b.c] h = some (.ret (.int .i64 z), h)) →
      alarm_Cmp.l0 (alarm_Cmp.JD 7) (m + 1) (.ptr 0 0) (.ptr 1 0) cmpL (.int .i64 6) (.int .i64 (i : Int)) [.arr a.c false, .arr b.c false] = if z ≠ 0 then some (.ret (.int .i64 z), [.arr a.c false, .arr b.c false]) else alarm_Cmp.l0 (alarm_Cmp.JD 7) m (.ptr 0 0) (.ptr 1 0) cmpL (.int .i64 6) (.int .i64 ((i + 1 : Nat) : Int)) [.arr a.c false, .arr b.c false] := by
    intro i m f z hi hp hf
    rw [alarm_Cmp.l0_eq hJ, show (.int .i64 6 : AV) = .int .i64 ((6 : Nat) : Int) from rfl, lssN, decide_eq_true hi]
    simp only [bind_some', condV_true]
    cases hx : ixSlice 1 cmpL (.int .i64 (i : Int)) with
    | none => rw [hx] at hp; cases hp
    | some p =>
      rw [hx, bind_some'] at hp
      simp only [bind_some', hp, ldA_at (two0 a b), ldA_at (two1 a b), Alarm.agg, canon_agg, Alarm.c_canon]
      rw [show callVal D ([AObj.arr a.c false, AObj.arr b.c false] : H) (FnC f) [.agg a.c, .agg b.c] = D f ([] ++ [.agg a.c, .agg b.c] ++ []) _ from rfl]
      simp only [List.nil_append, List.append_nil, hf, bind_some', retOr_ret, bin_neq, add1 i (by omega)]
      by_cases hz : z = 0
      · rw [if_neg (fun h => h hz), decide_eq_false (fun h => h hz), condV_false]
      · rw [if_pos hz, decide_eq_true hz, condV_true]
  rw [bind_some', show (.int .i64 0 : AV) = .int .i64 ((0 : Nat) : Int) from rfl]
  rw [step 0 6 n_alarm_compares_c1 _ (by decide) rfl (c1_den a b), step 1 5 n_alarm_compares_c2 _ (by decide) rfl (c2_den a b), step 2 4 n_alarm_compares_c3 _ (by decide) rfl (c3_den a b), step 3 3 n_alarm_compares_c4 _ (by decide) rfl (c4_den a b), step 4 2 n_alarm_compares_c5 _ (by decide) rfl (c5_den a b), step 5 1 n_alarm_compares_c6 _ (by decide) rfl (c6_den a b)]
  rw [alarm_Cmp.l0_eq hJ, show bin .lss (.int .i64 ((5 + 1 : Nat) : Int)) (.int .i64 6) = some (.bool false) from rfl]
  simp only [bind_some', condV_false, cmpN, cmps, firstNZ]
  repeat' split
  all_goals rfl
end Go.Proofs.Ytdggnlgklicbdaa

open Go Go.Ve Go.Proofs
namespace Go.Proofs.Ytdggnlgklicbdaa
set_option maxRecDepth 100000
set_option linter.all false
abbrev IL (l : List Int) (o : Own := .no) : AV := .list (l.map fun z => [.int .i64 z]) o
theorem IL_len (l : List Int) (o : Own) : lnSl (IL l o) = some (.int .i64 l.length) := by simp [IL]
theorem IL_at {k : IntKind} {l : List Int} {o : Own} {i : Nat} (hi : i < l.length) : ixSlice 1 (IL l o) (.int k i) = some (.rptr [.int .i64 l[i]] 0) := ixSlice_map hi (fun _ => rfl)
@[simp] theorem IL_pure (l : List Int) : pureR (l.map fun z => [AV.int .i64 z]) = true := pureR_map (fun z => by simp [pureL, AV.pure])
abbrev FL (l : List Int) (o : Own := .no) : AV := .list (l.map fun z => [.int .u64 z]) o
theorem FL_len (l : List Int) (o : Own) : lnSl (FL l o) = some (.int .i64 l.length) := by simp [FL]
theorem FL_at {k : IntKind} {l : List Int} {o : Own} {i : Nat} (hi : i < l.length) : ixSlice 1 (FL l o) (.int k i) = some (.rptr [.int .u64 l[i]] 0) := ixSlice_map hi (fun _ => rfl)
@[simp] theorem FL_pure (l : List Int) : pureR (l.map fun z => [AV.int .u64 z]) = true := pureR_map (fun z => by simp [pureL, AV.pure])
theorem FL_canon (l : List Int) (o : Own) : AV.canon (FL l o) = FL l := rfl
theorem FL_app {l l' : List Int} {o o' : Own} {owned : Bool} {h : H} (ho : mayApp o 1 owned = true) (hl : l.length + l'.length ≤ 2 ^ 40) : apSlice 1 8 false owned h (FL l o) (FL l' o') = some (FL (l ++ l') (.own 1)) := by
  have := ap_map (h := h) (f := fun z : Int => [AV.int .u64 z]) (l := l) (l' := l') (o := o) (o' := o') (s := 1) (bytes := 8) (byte := false) (owned := owned) ho (by decide) (fun _ => rfl) (by omega) (by omega)
  exact this
theorem one0 (k : IntKind) (z : Int) : ([AV.int k z] : List AV)[0]? = some (.int k z) := rfl
def nobody : Alarm := ⟨0, 0, [], [], 0, []⟩
abbrev atA (l : List Alarm) (i : Nat) : Alarm := l.getD i nobody
theorem atA_eq {l : List Alarm} {i : Nat} (h : i < l.length) : atA l i = l[i] := by simp [atA, h]
def Ahd (l : List Alarm) (j i : Nat) : Prop := cmpN (atA l j) (atA l i) < 0 ∨ (cmpN (atA l j) (atA l i) = 0 ∧ j < i)
instance (l : List Alarm) (j i : Nat) : Decidable (Ahd l j i) := by unfold Ahd; infer_instance
def twin (l : List Alarm) (j i : Nat) : Bool := decide (keyN (atA l j) = keyN (atA l i))
def rankN (l : List Alarm) (i : Nat) : Nat := (List.range' 0 l.length).countP fun j => decide (Ahd l j i) && twin l j i
theorem rankN_le (l : List Alarm) (i : Nat) : rankN l i ≤ l.length := by
  have := List.countP_le_length (p := fun j => decide (Ahd l j i) && twin l j i) (l := List.range' 0 l.length)
  rw [List.length_range'] at this
  exact this
abbrev Fit (l : List Alarm) : Prop := ∀ a ∈ l, a.Fits
def ofN (l : List Alarm) : List Int := (List.range' 0 l.length).map fun i => oneN (atA l i) (rankN l i)
theorem ofN_len (l : List Alarm) : (ofN l).length = l.length := by simp [ofN]
theorem mkF (z : Int) : mkRows 1 [.int .u64 0] 1 [(0, .int .u64 z)] = some (FL [z] .cap) := rfl
def apOk (o : Own) : Prop := o = .cap ∨ o = .own 1
theorem apOk.may {o : Own} (h : apOk o) : mayApp o 1 true = true := by rcases h with rfl | rfl <;> rfl
theorem fsame_loop {J : Jn (AEnd × H)} {k : Nat} (hJ : ref20_Same.F D k J) (l l' : List Int) (hl : l.length ≤ 2 ^ 50) (he : l.length = l'.length) (h : H) : ∀ (d i m : Nat), i + d = l.length → d < m →
    ref20_Same.l0 J m (FL l) (FL l') (.int .i64 (i : Int)) h = some (.ret (.bool (decide (l.drop i = l'.drop i))), h)
  | 0, i, m + 1, hi, _ => by
    rw [ref20_Same.l0_eq hJ]
    simp only [FL_len, lssN, decide_eq_false (show ¬ i < l.length by omega), bind_some', condV_false]
    rw [List.drop_of_length_le (by omega), List.drop_of_length_le (by omega)]; simp
  | d + 1, i, m + 1, hi, hm => by
    have h1 : i < l.length := by omega
    have h2 : i < l'.length := by omega
    have ih := fsame_loop hJ l l' hl he h d (i + 1) m (by omega) (by omega)
    rw [ref20_Same.l0_eq hJ, List.drop_eq_getElem_cons h1, List.drop_eq_getElem_cons h2]
    simp only [FL_len, lssN, decide_eq_true h1, bind_some', condV_true, FL_at h1, FL_at h2, ldCell_rptr, one0, bin_neq, add1 i (by omega), ih]
    by_cases hz : l[i] = l'[i]
    · rw [decide_eq_false (fun h => h hz), condV_false]
      have e : (l[i] :: l.drop (i + 1) = l'[i] :: l'.drop (i + 1)) ↔ (l.drop (i + 1) = l'.drop (i + 1)) := by rw [hz]; simp only [List.cons.injEq, true_and]
      rw [decide_eq_decide.mpr e]
    · rw [decide_eq_true hz, condV_true, decide_eq_false (fun h => hz (List.cons.inj h).1)]
theorem fsame_den (l l' : List Int) (hl : l.length ≤ 2 ^ 50) (h : H) : D n_warrantorref20_Same [FL l, FL l'] h = some (.ret (.bool (decide (l = l'))), h) := by
  refine ref20_Same.den (l.length + 1) (by simp [pureL, AV.pure]) (h' := []) ?_ rfl rfl
  rw [ref20_Same.f_eq (ref20_Same.fx _)]
  simp only [FL_len, bind_some', neqN]
  by_cases he : l.length = l'.length
  · rw [decide_eq_false (fun h => h he), condV_false]
    exact fsame_loop (ref20_Same.fx _) l l' hl he [] l.length 0 _ (by omega) (by omega)
  · rw [decide_eq_true he, condV_true, decide_eq_false (fun h => he (by rw [h]))]
end Go.Proofs.Ytdggnlgklicbdaa
