import Derived.Test.YtdggnlgklicbdaaVb1
import Derived.Test.YtdggnlgklicbdaaP2L
set_option linter.all false
open Go Go.Ve Go.Proofs
namespace Go.Proofs.Ytdggnlgklicbdaa
set_option maxRecDepth 100000
set_option linter.all false
theorem ahd_strict (l : List Alarm) : Strict (Ahd l) where
  irrefl x h := by
    rcases h with h | h
    · rw [cmpN_good.refl] at h; omega
    · omega
  trans {x y z} h1 h2 := by
    rcases h1 with h1 | h1 <;> rcases h2 with h2 | h2
    · exact .inl (cmpN_good.tr h1 h2)
    · exact .inl (by rw [← cmpN_good.eq' h2.1]; exact h1)
    · exact .inl (by rw [cmpN_good.eq h1.1]; exact h2)
    · exact .inr ⟨by rw [cmpN_good.eq h1.1]; exact h2.1, Nat.lt_trans h1.2 h2.2⟩
  tri x y := by
    have hs := cmpN_good.sym (atA l x) (atA l y)
    unfold Ahd
    rcases Int.lt_trichotomy (cmpN (atA l x) (atA l y)) 0 with h | h | h
    · exact .inl (.inl h)
    · rcases Nat.lt_trichotomy x y with q | q | q
      · exact .inl (.inr ⟨h, q⟩)
      · exact .inr (.inl q)
      · exact .inr (.inr (.inr ⟨by omega, q⟩))
    · exact .inr (.inr (.inl (by omega)))
def msE (ms : List (Tx × Nat)) : List (AV × AV) := ms.map fun p => (.str p.1, .int .i64 (p.2 : Int))
def lkMs (ms : List (Tx × Nat)) (k : Tx) : Nat := match ms with
  | [] => 0
  | (k', v) :: t => if k = k' then v else lkMs t k
def upMs (ms : List (Tx × Nat)) (k : Tx) (v : Nat) : List (Tx × Nat) := match ms with
  | [] => [(k, v)]
  | (k', v') :: t => if k = k' then (k, v) :: t else (k', v') :: upMs t k v
theorem lk_up (k k' : Tx) (v : Nat) : ∀ ms, lkMs (upMs ms k v) k' = if k' = k then v else lkMs ms k'
  | [] => by simp [upMs, lkMs]
  | (q, u) :: t => by
    unfold upMs
    by_cases h : k = q
    · rw [if_pos h]
      simp only [lkMs]
      by_cases h2 : k' = k
      · rw [if_pos h2, if_pos h2]
      · rw [if_neg h2, if_neg h2, if_neg (fun e => h2 (e.trans h.symm))]
    · rw [if_neg h]
      simp only [lkMs]
      rw [lk_up k k' v t]
      by_cases h2 : k' = q
      · rw [if_pos h2, if_pos h2, if_neg (fun e => h (e.symm.trans h2))]
      · rw [if_neg h2, if_neg h2]
theorem find_ms (k : Tx) : ∀ (ms : List (Tx × Nat)) (s : Nat), (∃ i, findKey (.str k) (msE ms) s = some (some (s + i)) ∧ i < ms.length ∧ (msE ms)[i]? = some (.str k, .int .i64 (lkMs ms k : Int)) ∧ (∀ v : AV, ∀ n : Nat, v = .int .i64 (n : Int) → (msE ms).modify i (fun _ => (.str k, v)) = msE (upMs ms k n))) ∨ (findKey (.str k) (msE ms) s = some none ∧ lkMs ms k = 0 ∧ ∀ n, msE ms ++ [(.str k, .int .i64 ((n : Nat) : Int))] = msE (upMs ms k n))
  | [], s => .inr ⟨rfl, rfl, fun n => rfl⟩
  | (q, u) :: t, s => by
    have e : findKey (.str k) (msE ((q, u) :: t)) s = match (some (k == q) : Option Bool) with
      | some true => some (some s)
      | some false => findKey (.str k) (msE t) (s + 1)
      | none => none := rfl
    by_cases h : k = q
    · subst h
      left
      refine ⟨0, ?_, by simp, ?_, ?_⟩
      · rw [e]; simp
      · simp [msE, lkMs]
      · intro v n hv
        subst hv
        simp [msE, upMs]
    · have hb : (k == q) = false := by simp [h]
      rw [hb] at e
      simp only at e
      rcases find_ms k t (s + 1) with ⟨i, h1, h2, h3, h4⟩ | ⟨h1, h2, h3⟩
      · left
        refine ⟨i + 1, ?_, by simpa using h2, ?_, ?_⟩
        · rw [e, h1]; congr 2; omega
        · show (msE t)[i]? = _
          rw [h3]; simp [lkMs, h]
        · intro v n hv
          have := h4 v n hv
          simp only [msE, List.map_cons, List.modify_succ_cons, upMs, if_neg h]
          exact congrArg _ this
      · right
        refine ⟨by rw [e, h1], by simp [lkMs, h, h2], fun n => ?_⟩
        have := h3 n
        simp only [msE, List.map_cons, List.cons_append, upMs, if_neg h]
        exact congrArg _ this
theorem lk_ms {h : H} {id : Nat} {ms : List (Tx × Nat)} (hi : h[id]? = some (.map (msE ms))) (k : Tx) : lkMap .str (.int .i64 0) h (.map id) (.str k) false = some (.int .i64 (lkMs ms k : Int)) := by
  unfold lkMap mapEs
  simp only [isKey, if_true, hi, Option.bind_some]
  rcases find_ms k ms 0 with ⟨i, h1, h2, h3, _⟩ | ⟨h1, h2, _⟩
  · rw [Nat.zero_add] at h1
    rw [h1, Option.bind_some]
    simp [h3]
  · rw [h1, Option.bind_some, h2]
    simp
theorem up_ms {h : H} {id : Nat} {ms : List (Tx × Nat)} (hi : h[id]? = some (.map (msE ms))) (k : Tx) (n : Nat) : upMap .str h (.map id) (.str k) (.int .i64 (n : Int)) = some (.undef, h.set id (.map (msE (upMs ms k n)))) := by
  unfold upMap
  simp only [isKey, if_true, hi]
  rcases find_ms k ms 0 with ⟨i, h1, h2, h3, h4⟩ | ⟨h1, h2, h3⟩
  · rw [Nat.zero_add] at h1
    rw [h1, Option.bind_some]
    simp only [copy_int]
    rw [h4 _ n rfl]
  · rw [h1, Option.bind_some]
    simp only [copy_int]
    rw [h3 n]
theorem den_frz0 {P : Program} {pol : Pol} {f : FuncId} {fn : Func} {c : Code} {args : List AV} {v w : AV} {h h' : H} (hx : pol.ext f = none) (hf : P.funcs[f]? = some fn) (hb : fn.body = some c) (hm : pol.mode f = 0) (hok : (resOk fn && Nat.ble args.length fn.ntmps && (pol.ann f).1.q.all pol.still) = true) (n : Nat) (hp : pureL args = true)
    (he : body P (pol.ann f).1 (den P pol) fn (pol.ann f).2 n c args [] = some (.ret v, h')) (hz : v.freeze h' = some w) (hw : w.pure = true) (hro : retOk fn (.ret w) = true) : den P pol f args h = some (.ret w, h) := by
  refine den_pure hx hf hb hm hok n ?_
  unfold retChk pureCall
  rw [mapM_pure hp]
  simp only [hp, if_true, he]
  rw [hz]
  simp only [Option.bind_some, hw, Bool.true_or, Bool.and_true, if_true, hro]
abbrev HP (l : List Alarm) (d : List Nat) : H := [.arr [AL l] false, .arr (nvs d) false]
abbrev HQ (l : List Alarm) (R O : List Nat) (ms : List (Tx × Nat)) : H := [.arr [AL l] false, .arr (nvs R) false, .arr (nvs O) false, .map (msE ms)]
theorem hp_S (l : List Alarm) (d : List Nat) : HP l d = S (HP l []) 1 d := rfl
theorem hp_0 (l : List Alarm) (d : List Nat) : (HP l d)[0]? = some (.arr [AL l] false) := rfl
theorem al0 (l : List Alarm) : ([AL l] : List AV)[0]? = some (AL l) := rfl
theorem cmp_ok (l : List Alarm) (hl : l.length ≤ 2 ^ 40) : CmpOk (.func (.func n_finger_Ranks_c1) [] [.ptr 0 0]) 1 (HP l []) (Ahd l) l.length where
  canon := rfl
  call d x y hy hx := by
    refine ⟨cmpN (atA l x) (atA l y), ?_, ?_⟩
    · rw [← hp_S]
      rw [show callVal D (HP l d) (.func (.func n_finger_Ranks_c1) [] [.ptr 0 0]) [.int .i64 (x : Int), .int .i64 (y : Int)] = D n_finger_Ranks_c1 [.int .i64 (x : Int), .int .i64 (y : Int), .ptr 0 0] (HP l d) from rfl]
      refine finger_Ranks_c1.den 1 ?_ rfl
      rw [finger_Ranks_c1.f_eq (finger_Ranks_c1.fx 1)]
      have hyl : y < l.length := by omega
      simp only [ld_at (hp_0 l d), al0, bind_some', AL_at hx, AL_at hyl, ldAgg_rptr, Alarm.agg, canon_agg, Alarm.c_canon, cmp_den, retOr_ret, copy_int]
      rw [atA_eq hx, atA_eq hyl]
    · constructor
      · intro h; exact .inl h
      · rintro (h | h)
        · exact h
        · omega
theorem fill_loop {J : Jn (AEnd × H)} {k : Nat} (hJ : finger_Ranks.F D k J) (l : List Alarm) (hl : l.length ≤ 2 ^ 40) : ∀ (d i m : Nat), i + d = l.length → d < m →
    ∃ m', finger_Ranks.l0 J m (.ptr 0 0) (SL 1 l.length) (.int .i64 (l.length : Int)) (.int .i64 (i : Int)) (HP l (List.range' 0 i ++ List.replicate d 0)) = finger_Ranks.l0 J (m' + 1) (.ptr 0 0) (SL 1 l.length) (.int .i64 (l.length : Int)) (.int .i64 (l.length : Int)) (HP l (List.range' 0 l.length))
  | 0, i, m + 1, hi, _ => ⟨m, by rw [show i = l.length by omega]; simp⟩
  | d + 1, i, m + 1, hi, hm => by
    have hil : i < l.length := by omega
    obtain ⟨m', ih⟩ := fill_loop hJ l hl d (i + 1) m (by omega) (by omega)
    refine ⟨m', ?_⟩
    rw [finger_Ranks.l0_eq hJ]
    simp only [lssN, decide_eq_true hil, bind_some', condV_true, SL_at hil, copy_int]
    rw [hp_S, S_st (by simp) (by simp) i, bind_some', add1 i (by omega), bind_some', ← hp_S]
    have e : (List.range' 0 i ++ List.replicate (d + 1) 0).set i i = List.range' 0 (i + 1) ++ List.replicate d 0 := by
      rw [List.set_append_right _ _ (by simp), List.length_range', Nat.sub_self, List.range'_1_concat, List.replicate_succ]
      simp
    rw [e]
    exact ih
theorem count_ahead {l : List Alarm} {R1 R2 : List Nat} {i : Nat} (so : IsSort (Ahd l) (R1 ++ i :: R2) (List.range' 0 l.length)) : rankN l i = R1.countP fun j => twin l j i := by
  have s := ahd_strict l
  have nd : (R1 ++ i :: R2).Nodup := List.nodup_iff_pairwise_ne.mpr (List.Pairwise.imp (R := Ahd l) (S := fun a b => a ≠ b) (fun {x y} (h : Ahd l x y) (e : x = y) => s.irrefl y (by rw [e] at h; exact h)) so.up)
  have pm : (List.range' 0 l.length).Perm (R1 ++ i :: R2) := (List.perm_ext_iff_of_nodup List.nodup_range' nd).mpr fun x => (so.mem x).symm
  unfold rankN
  rw [pm.countP_eq, List.countP_append, List.countP_cons]
  obtain ⟨u1, u2, u3⟩ := List.pairwise_append.mp so.up
  have e1 : R1.countP (fun j => decide (Ahd l j i) && twin l j i) = R1.countP fun j => twin l j i := by
    apply List.countP_congr
    intro x hx
    rw [decide_eq_true (u3 x hx i (by simp)), Bool.true_and]
  have e2 : R2.countP (fun j => decide (Ahd l j i) && twin l j i) = 0 := by
    rw [List.countP_eq_zero]
    intro x hx
    have := (List.pairwise_cons.mp u2).1 x hx
    rw [decide_eq_false (s.asymm this), Bool.false_and]
    exact Bool.false_ne_true
  rw [e1, e2, decide_eq_false (s.irrefl i)]
  simp
theorem rank_fill {J : Jn (AEnd × H)} {k : Nat} (hJ : finger_Ranks.F D k J) (l : List Alarm) (hl : l.length ≤ 2 ^ 40) (f : Fit l) {R : List Nat} (so : IsSort (Ahd l) R (List.range' 0 l.length)) : ∀ (R2 R1 O : List Nat) (ms : List (Tx × Nat)) (m : Nat), R = R1 ++ R2 → R2.length < m → O.length = l.length → (∀ j ∈ R1, O[j]? = some (rankN l j)) → (∀ q, lkMs ms q = R1.countP fun j => decide (keyN (atA l j) = q)) →
    ∃ O' ms', O'.length = l.length ∧ (∀ j ∈ R, O'[j]? = some (rankN l j)) ∧ finger_Ranks.l1 J m (.ptr 0 0) (.slc 2 0 l.length 1) (.map 3) (SL 1 l.length) (.int .i64 (l.length : Int)) (.int .i64 (R1.length : Int)) (HQ l R O ms) = some (.ret (.slc 2 0 l.length 1), HQ l R O' ms')
  | [], R1, O, ms, m + 1, hR, _, hO, h1, _ => by
    have hRl : R.length = l.length := by rw [so.len, List.length_range']
    rw [List.append_nil] at hR
    subst hR
    refine ⟨O, ms, hO, h1, ?_⟩
    rw [finger_Ranks.l1_eq hJ, lssN, decide_eq_false (by omega)]
    simp only [bind_some', condV_false]
  | i :: R2, R1, O, ms, m + 1, hR, hm, hO, h1, h2 => by
    have hRl : R.length = l.length := by rw [so.len, List.length_range']
    have ht : R1.length < l.length := by rw [← hRl, hR]; simp
    have hit : R[R1.length]? = some i := by rw [hR]; simp
    have hil : i < l.length := by
      have : i ∈ R := by rw [hR]; simp
      have := (so.mem i).mp this
      simpa using this
    have hr : rankN l i = lkMs ms (keyN l[i]) := by
      rw [h2, count_ahead (hR ▸ so)]
      apply List.countP_congr
      intro x _
      unfold twin
      rw [atA_eq hil]
    have hcnt : lkMs ms (keyN l[i]) ≤ l.length := by rw [← hr]; exact rankN_le l i
    obtain ⟨O', ms', q1, q2, ih⟩ := rank_fill hJ l hl f so R2 (R1 ++ [i]) (O.set i (rankN l i)) (upMs ms (keyN l[i]) (lkMs ms (keyN l[i]) + 1)) m (by rw [hR]; simp) (by simp at hm; omega) (by rw [List.length_set]; exact hO) (fun j hj => by
      rcases List.mem_append.mp hj with hj | hj
      · by_cases e : i = j
        · subst e; rw [List.getElem?_set_self (by omega)]
        · rw [List.getElem?_set_ne e]; exact h1 j hj
      · rw [List.mem_singleton.mp hj, List.getElem?_set_self (by omega)]) (fun q => by
      rw [lk_up, List.countP_append, ← h2 q, List.countP_singleton, atA_eq hil]
      by_cases e : q = keyN l[i]
      · rw [if_pos e, decide_eq_true e.symm, e]; rfl
      · rw [if_neg e, decide_eq_false (fun h => e h.symm)]; rfl)
    refine ⟨O', ms', q1, q2, ?_⟩
    have g0 : (HQ l R O ms)[0]? = some (.arr [AL l] false) := rfl
    have g1 : (HQ l R O ms)[1]? = some (.arr (nvs R) false) := rfl
    have g2 : (HQ l R O ms)[2]? = some (.arr (nvs O) false) := rfl
    have g3 : (HQ l R O ms)[3]? = some (.map (msE ms)) := rfl
    have g4 : (HQ l R (O.set i (rankN l i)) ms)[3]? = some (.map (msE ms)) := rfl
    have gR : (nvs R)[0 + R1.length * 1]? = some (.int .i64 (i : Int)) := by rw [Nat.zero_add, Nat.mul_one, List.getElem?_map, hit]; rfl
    have st : stN 1 (HQ l R O ms) (.ptr 2 (0 + i * 1)) (.int .i64 (lkMs ms (keyN l[i]) : Int)) = some (.undef, HQ l R (O.set i (rankN l i)) ms) := by
      rw [st_int g2 (by simp; omega), Nat.zero_add, Nat.mul_one, nvs_set, hr]; rfl
    have at2 : ixSlice 1 (.slc 2 0 l.length 1) (.int .i64 (i : Int)) = some (.ptr 2 (0 + i * 1)) := SL_at hil
    rw [finger_Ranks.l1_eq hJ, lssN, decide_eq_true ht]
    simp only [bind_some', condV_true, SL_at ht, ld_at g1, gR, ld_at g0, al0, AL_at hil, ldAgg_rptr, Alarm.agg, canon_agg, Alarm.c_canon, key_den _ (f _ (List.getElem_mem hil)), retOr_ret, BL_toStr, lk_ms g3, at2, copy_int, st, lk_ms g4, add1 _ (show lkMs ms (keyN l[i]) < 2 ^ 60 by omega), up_ms g4, add1 _ (show R1.length < 2 ^ 60 by omega)]
    rw [List.length_append, List.length_singleton] at ih
    exact ih
def ranksN (l : List Alarm) : List Int := (List.range' 0 l.length).map fun i => (rankN l i : Int)
theorem chunks_nvs : ∀ (O : List Nat), chunks 1 O.length (nvs O) = O.map fun n : Nat => [AV.int .i64 (n : Int)]
  | [] => rfl
  | n :: O => by
    show [AV.int .i64 (n : Int)] :: chunks 1 O.length (nvs O) = _
    rw [chunks_nvs O]
    rfl
theorem ranks_den (l : List Alarm) (hl : l.length ≤ 2 ^ 38) (f : Fit l) (h : H) : D n_finger_Ranks [AL l] h = some (.ret (IL (ranksN l)), h) := by
  have hJ := finger_Ranks.fx (l.length + 1)
  obtain ⟨m', e0⟩ := fill_loop hJ l (by omega) l.length 0 (l.length + 1) (by omega) (by omega)
  obtain ⟨R, so, e1⟩ := stable_den (cmp_ok l (by omega)) (ahd_strict l) (show 1 < (HP l []).length by simp) (T := List.range' 0 l.length) (by simp; omega) List.pairwise_lt_range' (fun y hy => by simpa using hy)
  rw [List.length_range', ← hp_S, ← hp_S] at e1
  have hRl : R.length = l.length := by rw [so.len, List.length_range']
  obtain ⟨O, ms, q1, q2, e2⟩ := rank_fill hJ l (by omega) f so R [] (List.replicate l.length 0) [] (l.length + 1) (by simp) (by omega) (by simp) (fun j hj => by cases hj) (fun q => rfl)
  have mk1 : ∀ (hh : H), mkSlice 1 8 [.int .i64 0] false hh (.int .i64 (l.length : Int)) (.int .i64 (l.length : Int)) = some (.slc hh.length 0 l.length 1, hh ++ [.arr (nvs (List.replicate l.length 0)) false]) := by
    intro hh
    unfold mkSlice
    simp only
    rw [if_pos ⟨by omega, by omega, by omega, by omega⟩]
    have : ∀ n : Nat, (List.replicate n [AV.int .i64 0]).flatten = nvs (List.replicate n 0) := by
      intro n
      induction n with
      | zero => rfl
      | succ n ih => rw [List.replicate_succ, List.flatten_cons, ih, List.replicate_succ]; rfl
    simp [this]
  have key : finger_Ranks.f (finger_Ranks.JD (l.length + 1)) (AL l) [] = some (.ret (.slc 2 0 l.length 1), HQ l R O ms) := by
    rw [finger_Ranks.f_eq hJ]
    rw [show bx [] (AV.copy (AL l)) = some (.ptr 0 0, [.arr [AL l] false]) from rfl]
    have g : ([AObj.arr [AL l] false] : H)[0]? = some (.arr [AL l] false) := rfl
    simp only [bind_some', ld_at g, al0, AL_len, mk1]
    have g2 : ([AObj.arr [AL l] false] ++ [AObj.arr (nvs (List.replicate l.length 0)) false] : H)[0]? = some (.arr [AL l] false) := rfl
    simp only [ld_at g2, al0, bind_some', AL_len]
    refine Eq.trans e0 ?_
    rw [finger_Ranks.l0_eq hJ, lssN, decide_eq_false (Nat.lt_irrefl _)]
    simp only [bind_some', condV_false]
    rw [show AV.canon (SL 1 l.length) = SL 1 l.length from rfl, show AV.canon (.func (.func n_finger_Ranks_c1) [] [AV.copy (.ptr 0 0)]) = .func (.func n_finger_Ranks_c1) [] [.ptr 0 0] from rfl, e1]
    simp only [bind_some', retOr_ret, ld_at (hp_0 l R), al0, AL_len, mk1]
    rw [show lnSl (SL 1 l.length) = some (.int .i64 (l.length : Int)) from rfl]
    exact e2
  refine den_frz0 (fn := Try.f15) (c := finger_Ranks.c) (v := .slc 2 0 l.length 1) (h' := HQ l R O ms) (by kernel_rfl) Try.func15 (by kernel_rfl) (by kernel_rfl) (by kernel_rfl) (l.length + 1) (by simp [pureL, AV.pure]) ?_ ?_ (by simp [AV.pure]) rfl
  · rw [show (pol.ann n_finger_Ranks).1 = finger_Ranks.A by kernel_rfl, show (pol.ann n_finger_Ranks).2 = finger_Ranks.an by kernel_rfl, body_real _ _ (by kernel_rfl)]
    exact key
  · have eO : O = (List.range' 0 l.length).map (rankN l) := by
      apply List.ext_getElem?
      intro j
      by_cases hj : j < l.length
      · rw [q2 j ((so.mem j).mpr (by simp [hj])), List.getElem?_map, List.getElem?_range' hj]
        simp
      · rw [List.getElem?_eq_none (by omega), List.getElem?_eq_none (by simp; omega)]
    have hc := chunks_nvs O
    rw [q1] at hc
    have hlen : (nvs O).length = l.length := by simp [q1]
    simp only [AV.freeze, AV.freezeAgg, AV.freezeCell, List.getElem?_cons_succ, List.getElem?_cons_zero, List.drop_zero, hlen, Nat.zero_add, Nat.mul_one, Nat.le_refl, if_true, hc]
    rw [eO]
    simp [ranksN, List.map_map, Function.comp_def]
theorem of_loop {J : Jn (AEnd × H)} {k : Nat} (hJ : finger_Of.F D k J) (l : List Alarm) (hl : l.length ≤ 2 ^ 38) (f : Fit l) (h : H) : ∀ (d j m : Nat) (acc : List Int) (o : Own), j + d = l.length → d < m → acc.length + d ≤ 2 ^ 39 → apOk o →
    ∃ o', apOk o' ∧ finger_Of.l0 J m (AL l) (FL acc o) (IL (ranksN l)) (.int .i64 (l.length : Int)) (.int .i64 (j : Int)) h = some (.ret (FL (acc ++ (List.range' j d).map fun i => oneN (atA l i) (rankN l i)) o'), h)
  | 0, j, m + 1, acc, o, hj, _, _, ho => by
    refine ⟨o, ho, ?_⟩
    rw [finger_Of.l0_eq hJ]
    simp only [lssN, decide_eq_false (show ¬ j < l.length by omega), bind_some', condV_false]
    simp
  | d + 1, j, m + 1, acc, o, hj, hm, ha, ho => by
    have hjl : j < l.length := by omega
    have hjr : j < (ranksN l).length := by simp [ranksN]; exact hjl
    have e0 : atA l j = l[j] := atA_eq hjl
    have hr := rankN_le l j
    have er : (ranksN l)[j] = (rankN l j : Int) := by simp [ranksN]
    obtain ⟨o', ho', ih⟩ := of_loop hJ l hl f h d (j + 1) m (acc ++ [oneN l[j] (rankN l j)]) (.own 1) (by omega) (by omega) (by rw [List.length_append]; simp; omega) (.inr rfl)
    refine ⟨o', ho', ?_⟩
    rw [finger_Of.l0_eq hJ, List.range'_succ, List.map_cons, e0]
    simp only [lssN, decide_eq_true hjl, bind_some', condV_true, IL_at hjr, ldCell_rptr, one0, er, AL_at hjl, ldAgg_rptr, Alarm.agg, canon_int, canon_agg, Alarm.c_canon, one_den _ (f _ (List.getElem_mem hjl)) (rankN l j) (by omega), retOr_ret, mkF, FL_app ho.may (show acc.length + [oneN l[j] (rankN l j)].length ≤ 2 ^ 40 by simp; omega), add1 j (by omega)]
    rw [ih]
    simp
theorem of_den (l : List Alarm) (hl : l.length ≤ 2 ^ 38) (f : Fit l) (h : H) : ∃ o, apOk o ∧ D n_finger_Of [AL l] h = some (.ret (FL (ofN l) o), h) := by
  obtain ⟨o, ho, e⟩ := of_loop (finger_Of.fx (l.length + 1)) l hl f [] l.length 0 (l.length + 1) [] .cap (by omega) (by omega) (by simp; omega) (.inl rfl)
  refine ⟨o, ho, finger_Of.den (l.length + 1) (by simp) (h' := []) ?_ (by simp [AV.pure]) (by rcases ho with rfl | rfl <;> rfl)⟩
  rw [finger_Of.f_eq (finger_Of.fx _)]
  simp only [AL_canon, ranks_den l hl f, bind_some', retOr_ret, IL_len]
  rw [show ((ranksN l).length : Int) = (l.length : Int) by simp [ranksN]]
  exact e
end Go.Proofs.Ytdggnlgklicbdaa

open Go Go.Ve Go.Proofs
namespace Go.Proofs.Ytdggnlgklicbdaa
set_option maxRecDepth 100000
set_option linter.all false
def Alarm.big (a : Alarm) : Bool := decide (300 < a.func.length) || (decide (300 < a.file.length) || decide (300 < a.expr.length))
def large (l : List Alarm) : Bool := decide (100 < l.length) || l.any Alarm.big
theorem gtr300 (n : Nat) : bin .gtr (.int .i64 (n : Int)) (.int .i64 300) = some (.bool (decide (300 < n))) := gtrN n 300
theorem large_loop {J : Jn (AEnd × H)} {k : Nat} (hJ : ref17_Large.F D k J) (l : List Alarm) (hl : l.length ≤ 2 ^ 50) (h : H) : ∀ (d i m : Nat), i + d = l.length → d < m →
    ref17_Large.l0 J m (AL l) (.int .i64 (i : Int)) h = some (.ret (.bool ((l.drop i).any Alarm.big)), h)
  | 0, i, m + 1, hi, _ => by
    rw [ref17_Large.l0_eq hJ]
    simp only [AL_len, lssN, decide_eq_false (show ¬ i < l.length by omega), bind_some', condV_false]
    rw [List.drop_of_length_le (by omega)]; rfl
  | d + 1, i, m + 1, hi, hm => by
    have hil : i < l.length := by omega
    have ih := large_loop hJ l hl h d (i + 1) m (by omega) (by omega)
    have j0 : ∀ b : Bool, ref17_Large.j0 J m (AL l) (.int .i64 (i : Int)) (.bool b) h = some (.ret (.bool (b || (l.drop (i + 1)).any Alarm.big)), h) := by
      intro b
      rw [ref17_Large.j0_eq hJ]
      cases b with
      | true => rw [condV_true]; rfl
      | false => simp only [condV_false, add1 i (by omega), bind_some', ih, Bool.false_or]
    rw [ref17_Large.l0_eq hJ, List.drop_eq_getElem_cons hil, List.any_cons]
    simp only [AL_len, lssN, decide_eq_true hil, bind_some', condV_true, AL_at hil, fAddr_rptr, ldCell_rptr, Alarm.f2, Alarm.f3, Alarm.f5, lnStr_str, gtr300, j0]
    unfold Alarm.big
    by_cases h1 : 300 < l[i].func.length
    · simp only [decide_eq_true h1, condV_true, Bool.true_or]
    · by_cases h2 : 300 < l[i].file.length
      · simp only [decide_eq_false h1, condV_false, decide_eq_true h2, condV_true, Bool.true_or, Bool.or_true]
      · simp only [decide_eq_false h1, condV_false, decide_eq_false h2, Bool.false_or]
theorem large_den (l : List Alarm) (h : H) : D n_warrantorref17_Large [AL l] h = some (.ret (.bool (large l)), h) := by
  refine ref17_Large.den (l.length + 1) (by simp) (h' := []) ?_ rfl rfl
  rw [ref17_Large.f_eq (ref17_Large.fx _)]
  rw [show (.int .i64 100 : AV) = .int .i64 ((100 : Nat) : Int) from rfl]
  simp only [AL_len, bind_some', gtrN, large]
  by_cases h1 : 100 < l.length
  · rw [decide_eq_true h1, condV_true]; rfl
  · rw [decide_eq_false h1, condV_false, Bool.false_or]
    have := large_loop (ref17_Large.fx (l.length + 1)) l (by omega) [] l.length 0 (l.length + 1) (by omega) (by omega)
    exact this
def Alarm.Int (a : Alarm) : Prop := a.kind < 2 ^ 63 ∧ -2 ^ 63 ≤ a.line ∧ a.line < 2 ^ 63
theorem small_fit {l : List Alarm} (h : large l = false) (hi : ∀ a ∈ l, a.Int) : l.length ≤ 100 ∧ Fit l := by
  unfold large at h
  rw [Bool.or_eq_false_iff] at h
  refine ⟨by have := of_decide_eq_false h.1; omega, fun a ha => ?_⟩
  have hb := (List.any_eq_false.mp h.2) a ha
  unfold Alarm.big at hb
  simp only [Bool.or_eq_true, decide_eq_true_eq, not_or] at hb
  exact ⟨(hi a ha).1, by omega, by omega, by omega⟩
end Go.Proofs.Ytdggnlgklicbdaa

open Go Go.Ve Go.Proofs
namespace Go.Proofs.Ytdggnlgklicbdaa
set_option maxRecDepth 100000
set_option linter.all false
abbrev HA (h : H) (a : Alarm) : H := h ++ [.arr a.c false]
theorem ha_at (h : H) (a : Alarm) : (HA h a)[h.length]? = some (.arr a.c false) := by simp [HA]
theorem ha_set (h : H) (a b : Alarm) : (HA h a).set h.length (.arr b.c false) = HA h b := by simp [HA]
theorem ha_put (h : H) (a b : Alarm) : stN 6 (HA h b) (.ptr h.length 0) (.agg a.c) = some (.undef, HA h a) := by
  rw [stN_ptr, ha_at]
  simp only [objSet, AV.cells, Alarm.c_len, Alarm.c_one, and_self, if_true]
  have : splice b.c 0 (.agg a.c) = some a.c := rfl
  rw [this, Option.map_some, ha_set]
theorem ha_str (h : H) (a b : Alarm) (k : Nat) (s : Tx) (hk : k < 6) (he : a.c.set k (.str s) = b.c) : stN 1 (HA h a) (.ptr h.length (0 + k)) (.str s) = some (.undef, HA h b) := by
  rw [stN_ptr, ha_at]
  simp only [objSet, AV.cells, List.length_singleton, List.all_cons, AV.one, List.all_nil, Bool.and_self, and_self, if_true]
  have : splice a.c (0 + k) (.str s) = some (a.c.set k (.str s)) := by
    rw [Nat.zero_add]
    match k, hk with
    | 0, _ => rfl
    | 1, _ => rfl
    | 2, _ => rfl
    | 3, _ => rfl
    | 4, _ => rfl
    | 5, _ => rfl
  rw [this, he, Option.map_some, ha_set]
theorem mkA (a : Alarm) : mkRows 6 [.int .i64 0, .int .i64 0, .str [], .str [], .int .i64 0, .str []] 1 [(0, .agg a.c)] = some (AL [a] .cap) := rfl
theorem AL_app {l l' : List Alarm} {o o' : Own} {owned : Bool} {h : H} (ho : mayApp o 6 owned = true) (hl : l.length + l'.length ≤ 2 ^ 38) : apSlice 6 72 false owned h (AL l o) (AL l' o') = some (AL (l ++ l') (.own 6)) := by
  have := ap_map (h := h) (f := Alarm.c) (l := l) (l' := l') (o := o) (o' := o') (s := 6) (bytes := 72) (byte := false) (owned := owned) ho (by decide) Alarm.c_len (by omega) (by omega)
  exact this
def apOk6 (o : Own) : Prop := o = .cap ∨ o = .own 6
theorem apOk6.may {o : Own} (h : apOk6 o) : mayApp o 6 true = true := by rcases h with rfl | rfl <;> rfl
def goodP (p : Tx) : Prop := (p ≠ [] ∧ ∀ x ∈ p, wordB x = true) ∨ ∃ c, p = [c] ∧ wordB c = false ∧ c ≠ 32
theorem prtF_good : ∀ (f : Nat) (s : Tx), ∀ p ∈ prtF f s, goodP p
  | 0, _, p, h => by simp [prtF] at h
  | f + 1, [], p, h => by simp [prtF] at h
  | f + 1, c :: l, p, h => by
    unfold prtF at h
    split at h
    · rename_i hw
      rcases List.mem_cons.mp h with rfl | h
      · refine .inl ⟨by simp, fun x hx => ?_⟩
        rcases List.mem_cons.mp hx with rfl | hx
        · exact hw
        · exact mem_tw hx
      · exact prtF_good f _ p h
    · rename_i hw
      split at h
      · exact prtF_good f _ p h
      · rename_i h32
        rcases List.mem_cons.mp h with rfl | h
        · exact .inr ⟨c, rfl, by simpa using hw, h32⟩
        · exact prtF_good f _ p h
theorem nrm_head {ps : List Tx} (hg : ∀ p ∈ ps, goodP p) : ∀ d r, nrm true ps = d :: r → wordB d = false := by
  intro d r h
  cases ps with
  | nil => simp [nrm] at h
  | cons p ps =>
    unfold nrm at h
    cases hw : wordB (p.headD 0) with
    | true =>
      rw [hw] at h
      simp only [Bool.and_self, if_true] at h
      have : d = 32 := by simpa using (List.cons.inj h).1.symm
      rw [this]; decide
    | false =>
      rw [hw] at h
      simp only [Bool.true_and, Bool.false_eq_true, if_false, List.nil_append] at h
      rcases hg p (by simp) with ⟨h1, h2⟩ | ⟨c, rfl, h2, _⟩
      · cases p with
        | nil => exact absurd rfl h1
        | cons x p => rw [List.headD_cons, h2 x (by simp)] at hw; cases hw
      · rw [List.cons_append] at h
        rw [← (List.cons.inj h).1]; exact h2
theorem prts_nrm : ∀ (ps : List Tx) (b : Bool), (∀ p ∈ ps, goodP p) → prts (nrm b ps) = ps
  | [], b, _ => by cases b <;> simp [nrm, prts_nil]
  | p :: ps, b, hg => by
    have ih := fun b => prts_nrm ps b (fun q hq => hg q (List.mem_cons_of_mem _ hq))
    have key : prts (p ++ nrm (wordB (p.headD 0)) ps) = p :: ps := by
      rcases hg p (by simp) with ⟨h1, h2⟩ | ⟨c, rfl, h2, h3⟩
      · cases p with
        | nil => exact absurd rfl h1
        | cons x p =>
          have hx := h2 x (by simp)
          rw [List.headD_cons, hx]
          obtain ⟨t1, t2⟩ := take_all (m := x :: p) (r := nrm true ps) (p := wordB) h2 (nrm_head (fun q hq => hg q (List.mem_cons_of_mem _ hq)))
          rw [List.cons_append] at t1 t2 ⊢
          rw [prts_word hx]
          rw [List.takeWhile_cons, if_pos hx] at t1
          rw [List.dropWhile_cons, if_pos hx] at t2
          rw [t2, (List.cons.inj t1).2, ih]
      · rw [List.headD_cons, h2, List.singleton_append, prts_other h2 h3, ih]
    unfold nrm
    split
    · rw [List.append_assoc, List.singleton_append, prts_blank, key]
    · rw [List.nil_append, key]
theorem norm_norm (s : Tx) : normN (normN s) = normN s := by
  unfold normN
  rw [prts_nrm (prts s) false (prtF_good s.length s)]
def sp (a : Alarm) : Alarm := { a with expr := normN a.expr }
theorem sp_key (a : Alarm) : keyN (sp a) = keyN a := by simp [keyN, sp, norm_norm]
theorem ofN_map {l : List Alarm} {g : Alarm → Alarm} (hc : ∀ j i, j < l.length → i < l.length → (Ahd (l.map g) j i ↔ Ahd l j i)) (hk : ∀ a ∈ l, keyN (g a) = keyN a) : ofN (l.map g) = ofN l := by
  have at' : ∀ i, i < l.length → atA (l.map g) i = g (atA l i) := by
    intro i hi
    rw [atA_eq hi, atA_eq (by simpa using hi)]
    simp
  have hk' : ∀ i, i < l.length → keyN (atA (l.map g) i) = keyN (atA l i) := by
    intro i hi
    rw [at' i hi]
    exact hk _ (by rw [atA_eq hi]; exact List.getElem_mem hi)
  unfold ofN
  rw [List.length_map]
  apply List.map_congr_left
  intro i hi
  have hi : i < l.length := by simpa using hi
  have hr : rankN (l.map g) i = rankN l i := by
    unfold rankN
    rw [List.length_map]
    apply List.countP_congr
    intro j hj
    have hj : j < l.length := by simpa using hj
    have e1 : decide (Ahd (l.map g) j i) = decide (Ahd l j i) := decide_eq_decide.mpr (hc j i hj hi)
    have e2 : twin (l.map g) j i = twin l j i := by unfold twin; rw [hk' i hi, hk' j hj]
    rw [e1, e2]
  unfold oneN
  rw [hr, hk' i hi]
def Unlike (l : List Alarm) : Prop := ∀ i k, k < i → i < l.length → ¬ ((atA l k).file = (atA l i).file ∧ (atA l k).line = (atA l i).line)
theorem cmp_front {a b a' b' : Alarm} (h1 : a'.file = a.file) (h2 : a'.line = a.line) (h3 : b'.file = b.file) (h4 : b'.line = b.line) (hn : ¬ (a.file = b.file ∧ a.line = b.line)) : cmpN a' b' = cmpN a b := by
  unfold cmpN cmps firstNZ
  rw [h1, h2, h3, h4]
  by_cases hf : a.file = b.file
  · have hl : a.line ≠ b.line := fun e => hn ⟨hf, e⟩
    have h0 : tcmp a.file b.file = 0 := tcmp_eq.mpr hf
    have h5 : icmp a.line b.line ≠ 0 := fun e => hl (icmp_eq.mp e)
    rw [if_neg (fun h => h h0), if_neg (fun h => h h0)]
    unfold firstNZ
    rw [if_pos h5, if_pos h5]
  · have h0 : tcmp a.file b.file ≠ 0 := fun e => hf (tcmp_eq.mp e)
    rw [if_pos h0, if_pos h0]
theorem spaces_same {l : List Alarm} (hu : Unlike l) : ofN (l.map sp) = ofN l := by
  refine ofN_map (fun j i hj hi => ?_) (fun a _ => sp_key a)
  have at' : ∀ i, i < l.length → atA (l.map sp) i = sp (atA l i) := by
    intro i hi
    rw [atA_eq hi, atA_eq (by simpa using hi)]
    simp
  have hc : cmpN (atA (l.map sp) j) (atA (l.map sp) i) = cmpN (atA l j) (atA l i) := by
    rw [at' i hi, at' j hj]
    rcases Nat.lt_trichotomy j i with h | h | h
    · exact cmp_front rfl rfl rfl rfl (hu i j h hi)
    · subst h; rw [cmpN_good.refl, cmpN_good.refl]
    · refine cmp_front rfl rfl rfl rfl (fun e => hu j i h hj ⟨e.1.symm, e.2.symm⟩)
  unfold Ahd
  rw [hc]
theorem small_expr {l : List Alarm} (h : large l = false) : ∀ a ∈ l, a.expr.length ≤ 300 := by
  unfold large at h
  rw [Bool.or_eq_false_iff] at h
  intro a ha
  have hb := (List.any_eq_false.mp h.2) a ha
  unfold Alarm.big at hb
  simp only [Bool.or_eq_true, decide_eq_true_eq, not_or] at hb
  omega
theorem fs_inner {J : Jn (AEnd × H)} {k : Nat} (hJ : law20_FingerSpaces.F D k J) (l : List Alarm) (hl : l.length ≤ 2 ^ 38) (i : Nat) (hi : i < l.length) (m0 : Nat) (x3 : AV) (h : H) : ∀ (d j m : Nat), j + d = i → d < m → (∀ q, q < j → ¬ ((atA l q).file = (atA l i).file ∧ (atA l q).line = (atA l i).line)) →
    (law20_FingerSpaces.l1 J m0 m (AL l) x3 (.int .i64 (i : Int)) (.int .i64 (j : Int)) h = some (.ret (.bool true), h)) ∨
    ((∀ q, q < i → ¬ ((atA l q).file = (atA l i).file ∧ (atA l q).line = (atA l i).line)) ∧ ∃ m', law20_FingerSpaces.l1 J m0 m (AL l) x3 (.int .i64 (i : Int)) (.int .i64 (j : Int)) h = law20_FingerSpaces.l1 J m0 (m' + 1) (AL l) x3 (.int .i64 (i : Int)) (.int .i64 (i : Int)) h)
  | 0, j, m + 1, hj, _, hq => by
    have : j = i := by omega
    subst this
    exact .inr ⟨hq, m, rfl⟩
  | d + 1, j, m + 1, hj, hm, hq => by
    have hji : j < i := by omega
    have hjl : j < l.length := by omega
    have q1 : bin .eql (.int .i64 l[j].line) (.int .i64 l[i].line) = some (.bool (decide (l[j].line = l[i].line))) := bin_eql
    by_cases hf : l[j].file = l[i].file ∧ l[j].line = l[i].line
    · left
      rw [law20_FingerSpaces.l1_eq hJ]
      simp only [lssN, decide_eq_true hji, bind_some', condV_true, AL_at hjl, AL_at hi, fAddr_rptr, ldCell_rptr, Alarm.f3, Alarm.f4, str_eq, decide_eq_true hf.1, q1, decide_eq_true hf.2]
      rw [law20_FingerSpaces.j0_eq hJ]
      simp only [condV_true, lives20_den, bind_some', retOr_ret]
    · have ih := fs_inner hJ l hl i hi m0 x3 h d (j + 1) m (by omega) (by omega) (fun q hq' => by
        rcases Nat.lt_or_ge q j with h1 | h1
        · exact hq q h1
        · have : q = j := by omega
          subst this
          rw [atA_eq hjl, atA_eq hi]; exact hf)
      have e : law20_FingerSpaces.l1 J m0 (m + 1) (AL l) x3 (.int .i64 (i : Int)) (.int .i64 (j : Int)) h = law20_FingerSpaces.l1 J m0 m (AL l) x3 (.int .i64 (i : Int)) (.int .i64 ((j + 1 : Nat) : Int)) h := by
        have j0 : law20_FingerSpaces.j0 J m0 m (AL l) x3 (.int .i64 (i : Int)) (.int .i64 (j : Int)) (.bool false) h = law20_FingerSpaces.l1 J m0 m (AL l) x3 (.int .i64 (i : Int)) (.int .i64 ((j + 1 : Nat) : Int)) h := by
          rw [law20_FingerSpaces.j0_eq hJ]
          simp only [condV_false, add1 j (by omega), bind_some']
        rw [law20_FingerSpaces.l1_eq hJ]
        simp only [lssN, decide_eq_true hji, bind_some', condV_true, AL_at hjl, AL_at hi, fAddr_rptr, ldCell_rptr, Alarm.f3, Alarm.f4, str_eq, q1]
        by_cases h1 : l[j].file = l[i].file
        · rw [decide_eq_true h1, condV_true, decide_eq_false (fun h2 => hf ⟨h1, h2⟩), j0]
        · rw [decide_eq_false h1, condV_false, j0]
      rw [e]
      exact ih
theorem fs_loop {J : Jn (AEnd × H)} {k : Nat} (hJ : law20_FingerSpaces.F D k J) (l : List Alarm) (hl : l.length ≤ 100) (f : Fit l) (hs : ∀ a ∈ l, a.expr.length ≤ 300) (hk : l.length < k) : ∀ (d i m : Nat) (acc : List Alarm) (o : Own) (h : H), i + d = l.length → d < m → apOk6 o → acc = (l.take i).map sp → (∀ i' q, q < i' → i' < i → ¬ ((atA l q).file = (atA l i').file ∧ (atA l q).line = (atA l i').line)) →
    ∃ h', law20_FingerSpaces.l0 J m (AL l) (AL acc o) (.int .i64 (i : Int)) h = some (.ret (.bool true), h')
  | 0, i, m + 1, acc, o, h, hi, _, ho, ha, hu => by
    have ha : acc = l.map sp := by rw [ha, List.take_of_length_le (by omega)]
    have fa : Fit acc := by
      intro a h
      rw [ha] at h
      obtain ⟨b, hb, rfl⟩ := List.mem_map.mp h
      have fb := f b hb
      have := normN_len b.expr
      have h3 := hs b hb
      exact ⟨fb.kind, fb.func, fb.file, by show (normN b.expr).length ≤ _; omega⟩
    obtain ⟨o1, _, e1⟩ := of_den acc (by rw [ha, List.length_map]; omega) fa h
    obtain ⟨o2, _, e2⟩ := of_den l (by omega) f h
    refine ⟨h, ?_⟩
    rw [law20_FingerSpaces.l0_eq hJ]
    have es : ofN acc = ofN l := by
      rw [ha]
      exact spaces_same fun i' q h1 h2 => hu i' q h1 (by omega)
    simp only [AL_len, lssN, decide_eq_false (show ¬ i < l.length by omega), bind_some', condV_false, lives20_den, retOr_ret, condV_true, AL_canon, e1, e2, FL_canon, es, fsame_den (ofN l) (ofN l) (by rw [ofN_len]; omega), decide_true, copy_bool]
  | d + 1, i, m + 1, acc, o, h, hi, hm, ho, ha, hu => by
    have hil : i < l.length := by omega
    rw [law20_FingerSpaces.l0_eq hJ]
    simp only [AL_len, lssN, decide_eq_true hil, bind_some', condV_true]
    rcases fs_inner hJ l (by omega) i hil m (AL acc o) h i 0 k (by omega) (by omega) (fun q hq => absurd hq (Nat.not_lt_zero q)) with e | ⟨hu2, m', e⟩
    · exact ⟨h, e⟩
    · obtain ⟨h', ih⟩ := fs_loop hJ l hl f hs hk d (i + 1) m (acc ++ [sp l[i]]) (.own 6) (HA h (sp l[i])) (by omega) (by omega) (.inr rfl) (by rw [ha, List.take_succ, List.map_append, List.getElem?_eq_getElem hil]; rfl) (fun i' q h1 h2 => by
        rcases Nat.lt_or_ge i' i with h3 | h3
        · exact hu i' q h1 h3
        · have : i' = i := by omega
          subst this; exact hu2 q h1)
      refine ⟨h', ?_⟩
      have fi := f _ (List.getElem_mem hil)
      rw [show (.int .i64 0 : AV) = .int .i64 ((0 : Nat) : Int) from rfl, e, law20_FingerSpaces.l1_eq hJ, lssN, decide_eq_false (Nat.lt_irrefl i)]
      simp only [bind_some', condV_false, AL_at hil, ldAgg_rptr, Alarm.agg]
      have lacc : acc.length + [sp l[i]].length ≤ 2 ^ 38 := by rw [ha]; simp; omega
      rw [show (h ++ [AObj.arr [.int .i64 0, .int .i64 0, .str [], .str [], .int .i64 0, .str []] false]) = HA h nobody from rfl, copy_agg, Alarm.c_copy, ha_put]
      have e5 : stN 1 (HA h l[i]) (.ptr h.length (0 + 5)) (.str (normN l[i].expr)) = some (.undef, HA h (sp l[i])) := ha_str h l[i] (sp l[i]) 5 _ (by decide) rfl
      have fe : l[i].expr.length ≤ 2 ^ 40 := by have := fi.expr; omega
      simp only [bind_some', fAddr_ptr, ld_at (ha_at h l[i]), Alarm.f5, canon_str, rnorm_den _ fe, retOr_ret, e5, ldA_at (ha_at h (sp l[i])), Alarm.agg, mkA, AL_app ho.may lacc, add1 i (by omega)]
      exact ih
theorem fingerSpaces_den (l : List Alarm) (hi : ∀ a ∈ l, a.Int) : D n_warrantorlaw20_FingerSpaces [AL l] [] = some (.ret (.bool true), []) := by
  have hJ := law20_FingerSpaces.fx (l.length + 1)
  cases hb : large l with
  | true =>
    refine law20_FingerSpaces.den (l.length + 1) (by simp [pureL, AV.pure]) (h' := []) ?_ rfl rfl
    rw [law20_FingerSpaces.f_eq hJ]
    simp only [AL_canon, large_den, hb, bind_some', retOr_ret, condV_true, lives20_den]
  | false =>
    obtain ⟨h3, f⟩ := small_fit hb hi
    obtain ⟨h', e⟩ := fs_loop hJ l h3 f (small_expr hb) (by omega) l.length 0 (l.length + 1) [] .cap [] (by omega) (by omega) (.inl rfl) (by simp) (fun i' q h1 h2 => absurd h2 (Nat.not_lt_zero _))
    refine law20_FingerSpaces.den (l.length + 1) (by simp [pureL, AV.pure]) (h' := h') ?_ rfl rfl
    rw [law20_FingerSpaces.f_eq hJ]
    simp only [AL_canon, large_den, hb, bind_some', retOr_ret, condV_false]
    exact e
end Go.Proofs.Ytdggnlgklicbdaa
