import Derived.Test.YtdggnlgklicbdaaVb1
import Derived.Test.YtdggnlgklicbdaaP2L
set_option linter.all false
open Go Go.Ve Go.Proofs
namespace Go.Proofs.Ytdggnlgklicbdaa
set_option maxRecDepth 100000
set_option linter.all false
abbrev IL (l : List Int) (o : Own := .no) : AV := .list (l.map fun z => [.int .i64 z]) o
theorem IL_len (l : List Int) (o : Own) : lnSl (IL l o) = some (.int .i64 l.length) := by simp [IL]
theorem IL_at {k : IntKind} {l : List Int} {o : Own} {i : Nat} (hi : i < l.length) : ixSlice 1 (IL l o) (.int k i) = some (.rptr [.int .i64 l[i]] 0) := ixSlice_map hi (fun _ => rfl)
@[simp] theorem IL_pure (l : List Int) : pureR (l.map fun z => [AV.int .i64 z]) = true := pureR_map (fun z => by simp [pureL, AV.pure])
theorem IL_app {l l' : List Int} {o o' : Own} {owned : Bool} {h : H} (ho : mayApp o 1 owned = true) (hl : l.length + l'.length ≤ 2 ^ 40) : apSlice 1 8 false owned h (IL l o) (IL l' o') = some (IL (l ++ l') (.own 1)) := by
  have := ap_map (h := h) (f := fun z : Int => [AV.int .i64 z]) (l := l) (l' := l') (o := o) (o' := o') (s := 1) (bytes := 8) (byte := false) (owned := owned) ho (by decide) (fun _ => rfl) (by omega) (by omega)
  exact this
abbrev FL (l : List Int) (o : Own := .no) : AV := .list (l.map fun z => [.int .u64 z]) o
theorem FL_len (l : List Int) (o : Own) : lnSl (FL l o) = some (.int .i64 l.length) := by simp [FL]
theorem FL_at {k : IntKind} {l : List Int} {o : Own} {i : Nat} (hi : i < l.length) : ixSlice 1 (FL l o) (.int k i) = some (.rptr [.int .u64 l[i]] 0) := ixSlice_map hi (fun _ => rfl)
@[simp] theorem FL_pure (l : List Int) : pureR (l.map fun z => [AV.int .u64 z]) = true := pureR_map (fun z => by simp [pureL, AV.pure])
theorem FL_canon (l : List Int) (o : Own) : AV.canon (FL l o) = FL l := rfl
theorem FL_app {l l' : List Int} {o o' : Own} {owned : Bool} {h : H} (ho : mayApp o 1 owned = true) (hl : l.length + l'.length ≤ 2 ^ 40) : apSlice 1 8 false owned h (FL l o) (FL l' o') = some (FL (l ++ l') (.own 1)) := by
  have := ap_map (h := h) (f := fun z : Int => [AV.int .u64 z]) (l := l) (l' := l') (o := o) (o' := o') (s := 1) (bytes := 8) (byte := false) (owned := owned) ho (by decide) (fun _ => rfl) (by omega) (by omega)
  exact this
theorem one0 (k : IntKind) (z : Int) : ([AV.int k z] : List AV)[0]? = some (.int k z) := rfl
theorem rcmp_loop {J : Jn (AEnd × H)} {k : Nat} (hJ : ref17_Cmp.F D k J) (l : List Int) (hl : l.length ≤ 2 ^ 40) (h : H) : ∀ (d i m : Nat), i + d = l.length → d < m →
    ref17_Cmp.l0 J m (IL l .cap) (.int .i64 (i : Int)) h = some (.ret (.int .i64 (firstNZ (l.drop i))), h)
  | 0, i, m + 1, hi, _ => by
    rw [ref17_Cmp.l0_eq hJ]
    simp only [IL_len, lssN, decide_eq_false (show ¬ i < l.length by omega), bind_some', condV_false]
    rw [List.drop_of_length_le (by omega)]; rfl
  | d + 1, i, m + 1, hi, hm => by
    have hil : i < l.length := by omega
    have ih := rcmp_loop hJ l hl h d (i + 1) m (by omega) (by omega)
    rw [ref17_Cmp.l0_eq hJ, List.drop_eq_getElem_cons hil, firstNZ]
    simp only [IL_len, lssN, decide_eq_true hil, bind_some', condV_true, IL_at hil, ldCell_rptr, one0, bin_neq, copy_int, add1 i (by omega), ih]
    by_cases hz : l[i] = 0
    · rw [decide_eq_false (fun h => h hz), condV_false, if_neg (fun h => h hz)]
    · rw [decide_eq_true hz, condV_true, if_pos hz]
theorem rcmp_den (a b : Alarm) (h : H) : D n_warrantorref17_Cmp [.agg a.c, .agg b.c] h = some (.ret (.int .i64 (cmpN a b)), h) := by
  refine ref17_Cmp.den 7 (by simp [pureL, AV.pure]) (h' := [.arr a.c false, .arr b.c false]) ?_ rfl rfl
  rw [ref17_Cmp.f_eq (ref17_Cmp.fx 7), bx_alarm]
  simp only [bind_some', List.length_nil, List.nil_append, bx_alarm, List.length_singleton, List.singleton_append, fAddr_ptr, ld_at (two0 a b), ld_at (two1 a b), a.f0, b.f0, a.f1, b.f1, a.f2, b.f2, a.f3, b.f3, a.f4, b.f4, a.f5, b.f5, canon_str, canon_int, sign_den, number_den, retOr_ret]
  exact rcmp_loop (ref17_Cmp.fx 7) (cmps a b) (by simp [cmps]) _ 6 0 7 rfl (by decide)
def nobody : Alarm := ⟨0, 0, [], [], 0, []⟩
abbrev atA (l : List Alarm) (i : Nat) : Alarm := l.getD i nobody
theorem atA_eq {l : List Alarm} {i : Nat} (h : i < l.length) : atA l i = l[i] := by simp [atA, h]
def Ahd (l : List Alarm) (j i : Nat) : Prop := cmpN (atA l j) (atA l i) < 0 ∨ (cmpN (atA l j) (atA l i) = 0 ∧ j < i)
instance (l : List Alarm) (j i : Nat) : Decidable (Ahd l j i) := by unfold Ahd; infer_instance
def twin (l : List Alarm) (j i : Nat) : Bool := decide (keyN (atA l j) = keyN (atA l i))
def rankN (l : List Alarm) (i : Nat) : Nat := (List.range' 0 l.length).countP fun j => decide (Ahd l j i) && twin l j i
theorem rankN_le (l : List Alarm) (i : Nat) : rankN l i ≤ l.length := by
  have := List.countP_le_length (p := fun j => decide (Ahd l j i) && twin l j i) (l := List.range' 0 l.length)
  rw [List.length_range'] at this
  exact this
abbrev Fit (l : List Alarm) : Prop := ∀ a ∈ l, a.Fits
theorem rank_loop {J : Jn (AEnd × H)} {k : Nat} (hJ : ref20_Rank.F D k J) (l : List Alarm) (hl : l.length ≤ 2 ^ 40) (f : Fit l) (i : Nat) (hi : i < l.length) (h : H) : ∀ (d j m n : Nat), j + d = l.length → d < m → n + d ≤ 2 ^ 41 →
    ref20_Rank.l0 J m (AL l) (.int .i64 (i : Int)) (.int .i64 (n : Int)) (.int .i64 (j : Int)) h = some (.ret (.int .i64 ((n + (List.range' j d).countP (fun j => decide (Ahd l j i) && twin l j i) : Nat) : Int)), h)
  | 0, j, m + 1, n, hj, _, _ => by
    rw [ref20_Rank.l0_eq hJ]
    simp only [AL_len, lssN, decide_eq_false (show ¬ j < l.length by omega), bind_some', condV_false, copy_int]
    rfl
  | d + 1, j, m + 1, n, hj, hm, hn => by
    have hjl : j < l.length := by omega
    have j0 : ∀ b : Bool, ref20_Rank.j0 J m (AL l) (.int .i64 (i : Int)) (.int .i64 (n : Int)) (.int .i64 (j : Int)) (.bool b) h = some (.ret (.int .i64 ((n + ((List.range' (j + 1) d).countP (fun j => decide (Ahd l j i) && twin l j i) + if b then 1 else 0) : Nat) : Int)), h) := by
      intro b
      rw [ref20_Rank.j0_eq hJ]
      cases b with
      | true =>
        have ih := rank_loop hJ l hl f i hi h d (j + 1) m (n + 1) (by omega) (by omega) (by omega)
        simp only [condV_true, add1 n (by omega), add1 j (by omega), bind_some', ih]
        congr 4
        simp only [if_true]; omega
      | false =>
        have ih := rank_loop hJ l hl f i hi h d (j + 1) m n (by omega) (by omega) (by omega)
        simp only [condV_false, add1 j (by omega), bind_some', ih]
        rfl
    have e0 : atA l j = l[j] := atA_eq hjl
    have e1 : atA l i = l[i] := atA_eq hi
    have q1 : bin .lss (.int .i64 (cmpN l[j] l[i])) (.int .i64 0) = some (.bool (decide (cmpN l[j] l[i] < 0))) := bin_lss
    have q2 : bin .eql (.int .i64 (cmpN l[j] l[i])) (.int .i64 0) = some (.bool (decide (cmpN l[j] l[i] = 0))) := bin_eql
    rw [ref20_Rank.l0_eq hJ, List.range'_succ, List.countP_cons]
    simp only [AL_len, lssN, decide_eq_true hjl, bind_some', condV_true, AL_at hjl, AL_at hi, ldAgg_rptr, Alarm.agg, canon_agg, Alarm.c_canon, rcmp_den, retOr_ret, q1, q2, rkey_den _ (f _ (List.getElem_mem hjl)), rkey_den _ (f _ (List.getElem_mem hi)), str_eq]
    have tw : twin l j i = decide (keyN l[j] = keyN l[i]) := by unfold twin; rw [e0, e1]
    by_cases hlt : cmpN l[j] l[i] < 0
    · have ha : Ahd l j i := .inl (by rw [e0, e1]; exact hlt)
      rw [decide_eq_true hlt, condV_true, j0, decide_eq_true ha, Bool.true_and, tw]
    · rw [decide_eq_false hlt, condV_false]
      by_cases h0 : cmpN l[j] l[i] = 0
      · rw [decide_eq_true h0, condV_true]
        by_cases hji : j < i
        · have ha : Ahd l j i := .inr ⟨by rw [e0, e1]; exact h0, hji⟩
          rw [decide_eq_true hji, condV_true, j0, decide_eq_true ha, Bool.true_and, tw]
        · have ha : ¬ Ahd l j i := by
            rintro (h | h)
            · rw [e0, e1] at h; exact hlt h
            · exact hji h.2
          rw [decide_eq_false hji, condV_false, j0, decide_eq_false ha, Bool.false_and]
      · have ha : ¬ Ahd l j i := by
          rintro (h | h)
          · rw [e0, e1] at h; exact hlt h
          · rw [e0, e1] at h; exact h0 h.1
        rw [decide_eq_false h0, condV_false, j0, decide_eq_false ha, Bool.false_and]
theorem rank_den (l : List Alarm) (hl : l.length ≤ 2 ^ 40) (f : Fit l) (i : Nat) (hi : i < l.length) (h : H) : D n_warrantorref20_Rank [AL l, .int .i64 (i : Int)] h = some (.ret (.int .i64 (rankN l i : Int)), h) := by
  refine ref20_Rank.den (l.length + 1) (by simp [pureL, AV.pure]) (h' := []) ?_ rfl rfl
  rw [ref20_Rank.f_eq (ref20_Rank.fx _)]
  have := rank_loop (ref20_Rank.fx (l.length + 1)) l hl f i hi [] l.length 0 (l.length + 1) 0 (by omega) (by omega) (by omega)
  rw [Nat.zero_add] at this
  exact this
def ofN (l : List Alarm) : List Int := (List.range' 0 l.length).map fun i => oneN (atA l i) (rankN l i)
theorem ofN_len (l : List Alarm) : (ofN l).length = l.length := by simp [ofN]
theorem mkF (z : Int) : mkRows 1 [.int .u64 0] 1 [(0, .int .u64 z)] = some (FL [z] .cap) := rfl
theorem mkI (z : Int) : mkRows 1 [.int .i64 0] 1 [(0, .int .i64 z)] = some (IL [z] .cap) := rfl
def apOk (o : Own) : Prop := o = .cap ∨ o = .own 1
theorem apOk.may {o : Own} (h : apOk o) : mayApp o 1 true = true := by rcases h with rfl | rfl <;> rfl
theorem rof_loop {J : Jn (AEnd × H)} {k : Nat} (hJ : ref20_Of.F D k J) (l : List Alarm) (hl : l.length ≤ 2 ^ 38) (f : Fit l) (h : H) : ∀ (d j m : Nat) (acc : List Int) (o : Own), j + d = l.length → d < m → acc.length + d ≤ 2 ^ 39 → apOk o →
    ∃ o', apOk o' ∧ ref20_Of.l0 J m (AL l) (FL acc o) (.int .i64 (j : Int)) h = some (.ret (FL (acc ++ (List.range' j d).map fun i => oneN (atA l i) (rankN l i)) o'), h)
  | 0, j, m + 1, acc, o, hj, _, _, ho => by
    refine ⟨o, ho, ?_⟩
    rw [ref20_Of.l0_eq hJ]
    simp only [AL_len, lssN, decide_eq_false (show ¬ j < l.length by omega), bind_some', condV_false]
    simp
  | d + 1, j, m + 1, acc, o, hj, hm, ha, ho => by
    have hjl : j < l.length := by omega
    have e0 : atA l j = l[j] := atA_eq hjl
    have hr := rankN_le l j
    obtain ⟨o', ho', ih⟩ := rof_loop hJ l hl f h d (j + 1) m (acc ++ [oneN l[j] (rankN l j)]) (.own 1) (by omega) (by omega) (by rw [List.length_append]; simp; omega) (.inr rfl)
    refine ⟨o', ho', ?_⟩
    rw [ref20_Of.l0_eq hJ, List.range'_succ, List.map_cons, e0]
    simp only [AL_len, lssN, decide_eq_true hjl, bind_some', condV_true, AL_at hjl, ldAgg_rptr, Alarm.agg, AL_canon, canon_int, rank_den l (by omega) f j hjl, retOr_ret, canon_agg, Alarm.c_canon, rone_den _ (f _ (List.getElem_mem hjl)) (rankN l j) (by omega), mkF, FL_app ho.may (show acc.length + [oneN l[j] (rankN l j)].length ≤ 2 ^ 40 by simp; omega), add1 j (by omega)]
    rw [ih]
    simp
theorem rof_den (l : List Alarm) (hl : l.length ≤ 2 ^ 38) (f : Fit l) (h : H) : ∃ o, apOk o ∧ D n_warrantorref20_Of [AL l] h = some (.ret (FL (ofN l) o), h) := by
  obtain ⟨o, ho, e⟩ := rof_loop (ref20_Of.fx (l.length + 1)) l hl f [] l.length 0 (l.length + 1) [] .cap (by omega) (by omega) (by simp; omega) (.inl rfl)
  refine ⟨o, ho, ref20_Of.den (l.length + 1) (by simp) (h' := []) ?_ (by simp [AV.pure]) (by rcases ho with rfl | rfl <;> rfl)⟩
  rw [ref20_Of.f_eq (ref20_Of.fx _)]
  exact e
theorem fsame_loop {J : Jn (AEnd × H)} {k : Nat} (hJ : ref20_Same.F D k J) (l l' : List Int) (hl : l.length ≤ 2 ^ 50) (he : l.length = l'.length) (h : H) : ∀ (d i m : Nat), i + d = l.length → d < m →
    ref20_Same.l0 J m (FL l) (FL l') (.int .i64 (i : Int)) h = some (.ret (.bool (decide (l.drop i = l'.drop i))), h)
  | 0, i, m + 1, hi, _ => by
    rw [ref20_Same.l0_eq hJ]
    simp only [FL_len, lssN, decide_eq_false (show ¬ i < l.length by omega), bind_some', condV_false]
    rw [List.drop_of_length_le (by omega), List.drop_of_length_le (by omega)]; simp
  | d + 1, i, m + 1, hi, hm => by
    have h1 : i < l.length := by omega
    have h2 : i < l'.length := by omega
    have ih := fsame_loop hJ l l' hl he h d (i + 1) m (by omega) (by omega)
    rw [ref20_Same.l0_eq hJ, List.drop_eq_getElem_cons h1, List.drop_eq_getElem_cons h2]
    simp only [FL_len, lssN, decide_eq_true h1, bind_some', condV_true, FL_at h1, FL_at h2, ldCell_rptr, one0, bin_neq, add1 i (by omega), ih]
    by_cases hz : l[i] = l'[i]
    · rw [decide_eq_false (fun h => h hz), condV_false]
      have e : (l[i] :: l.drop (i + 1) = l'[i] :: l'.drop (i + 1)) ↔ (l.drop (i + 1) = l'.drop (i + 1)) := by rw [hz]; simp only [List.cons.injEq, true_and]
      rw [decide_eq_decide.mpr e]
    · rw [decide_eq_true hz, condV_true, decide_eq_false (fun h => hz (List.cons.inj h).1)]
theorem fsame_den (l l' : List Int) (hl : l.length ≤ 2 ^ 50) (h : H) : D n_warrantorref20_Same [FL l, FL l'] h = some (.ret (.bool (decide (l = l'))), h) := by
  refine ref20_Same.den (l.length + 1) (by simp [pureL, AV.pure]) (h' := []) ?_ rfl rfl
  rw [ref20_Same.f_eq (ref20_Same.fx _)]
  simp only [FL_len, bind_some', neqN]
  by_cases he : l.length = l'.length
  · rw [decide_eq_false (fun h => h he), condV_false]
    exact fsame_loop (ref20_Same.fx _) l l' hl he [] l.length 0 _ (by omega) (by omega)
  · rw [decide_eq_true he, condV_true, decide_eq_false (fun h => he (by rw [h]))]
end Go.Proofs.Ytdggnlgklicbdaa

open Go Go.Ve Go.Proofs
namespace Go.Proofs.Ytdggnlgklicbdaa
set_option maxRecDepth 100000
set_option linter.all false
theorem ahd_strict (l : List Alarm) : Strict (Ahd l) where
  irrefl x h := by
    rcases h with h | h
    · rw [cmpN_good.refl] at h; omega
    · omega
  trans {x y z} h1 h2 := by
    rcases h1 with h1 | h1 <;> rcases h2 with h2 | h2
    · exact .inl (cmpN_good.tr h1 h2)
    · exact .inl (by rw [← cmpN_good.eq' h2.1]; exact h1)
    · exact .inl (by rw [cmpN_good.eq h1.1]; exact h2)
    · exact .inr ⟨by rw [cmpN_good.eq h1.1]; exact h2.1, Nat.lt_trans h1.2 h2.2⟩
  tri x y := by
    have hs := cmpN_good.sym (atA l x) (atA l y)
    unfold Ahd
    rcases Int.lt_trichotomy (cmpN (atA l x) (atA l y)) 0 with h | h | h
    · exact .inl (.inl h)
    · rcases Nat.lt_trichotomy x y with q | q | q
      · exact .inl (.inr ⟨h, q⟩)
      · exact .inr (.inl q)
      · exact .inr (.inr (.inr ⟨by omega, q⟩))
    · exact .inr (.inr (.inl (by omega)))
def msE (ms : List (Tx × Nat)) : List (AV × AV) := ms.map fun p => (.str p.1, .int .i64 (p.2 : Int))
def lkMs (ms : List (Tx × Nat)) (k : Tx) : Nat := match ms with
  | [] => 0
  | (k', v) :: t => if k = k' then v else lkMs t k
def upMs (ms : List (Tx × Nat)) (k : Tx) (v : Nat) : List (Tx × Nat) := match ms with
  | [] => [(k, v)]
  | (k', v') :: t => if k = k' then (k, v) :: t else (k', v') :: upMs t k v
theorem lk_up (k k' : Tx) (v : Nat) : ∀ ms, lkMs (upMs ms k v) k' = if k' = k then v else lkMs ms k'
  | [] => by simp [upMs, lkMs]
  | (q, u) :: t => by
    unfold upMs
    by_cases h : k = q
    · rw [if_pos h]
      simp only [lkMs]
      by_cases h2 : k' = k
      · rw [if_pos h2, if_pos h2]
      · rw [if_neg h2, if_neg h2, if_neg (fun e => h2 (e.trans h.symm))]
    · rw [if_neg h]
      simp only [lkMs]
      rw [lk_up k k' v t]
      by_cases h2 : k' = q
      · rw [if_pos h2, if_pos h2, if_neg (fun e => h (e.symm.trans h2))]
      · rw [if_neg h2, if_neg h2]
theorem find_ms (k : Tx) : ∀ (ms : List (Tx × Nat)) (s : Nat), (∃ i, findKey (.str k) (msE ms) s = some (some (s + i)) ∧ i < ms.length ∧ (msE ms)[i]? = some (.str k, .int .i64 (lkMs ms k : Int)) ∧ (∀ v : AV, ∀ n : Nat, v = .int .i64 (n : Int) → (msE ms).modify i (fun _ => (.str k, v)) = msE (upMs ms k n))) ∨ (findKey (.str k) (msE ms) s = some none ∧ lkMs ms k = 0 ∧ ∀ n, msE ms ++ [(.str k, .int .i64 ((n : Nat) : Int))] = msE (upMs ms k n))
  | [], s => .inr ⟨rfl, rfl, fun n => rfl⟩
  | (q, u) :: t, s => by
    have e : findKey (.str k) (msE ((q, u) :: t)) s = match (some (k == q) : Option Bool) with
      | some true => some (some s)
      | some false => findKey (.str k) (msE t) (s + 1)
      | none => none := rfl
    by_cases h : k = q
    · subst h
      left
      refine ⟨0, ?_, by simp, ?_, ?_⟩
      · rw [e]; simp
      · simp [msE, lkMs]
      · intro v n hv
        subst hv
        simp [msE, upMs]
    · have hb : (k == q) = false := by simp [h]
      rw [hb] at e
      simp only at e
      rcases find_ms k t (s + 1) with ⟨i, h1, h2, h3, h4⟩ | ⟨h1, h2, h3⟩
      · left
        refine ⟨i + 1, ?_, by simpa using h2, ?_, ?_⟩
        · rw [e, h1]; congr 2; omega
        · show (msE t)[i]? = _
          rw [h3]; simp [lkMs, h]
        · intro v n hv
          have := h4 v n hv
          simp only [msE, List.map_cons, List.modify_succ_cons, upMs, if_neg h]
          exact congrArg _ this
      · right
        refine ⟨by rw [e, h1], by simp [lkMs, h, h2], fun n => ?_⟩
        have := h3 n
        simp only [msE, List.map_cons, List.cons_append, upMs, if_neg h]
        exact congrArg _ this
theorem lk_ms {h : H} {id : Nat} {ms : List (Tx × Nat)} (hi : h[id]? = some (.map (msE ms))) (k : Tx) : lkMap .str (.int .i64 0) h (.map id) (.str k) false = some (.int .i64 (lkMs ms k : Int)) := by
  unfold lkMap mapEs
  simp only [isKey, if_true, hi, Option.bind_some]
  rcases find_ms k ms 0 with ⟨i, h1, h2, h3, _⟩ | ⟨h1, h2, _⟩
  · rw [Nat.zero_add] at h1
    rw [h1, Option.bind_some]
    simp [h3]
  · rw [h1, Option.bind_some, h2]
    simp
theorem up_ms {h : H} {id : Nat} {ms : List (Tx × Nat)} (hi : h[id]? = some (.map (msE ms))) (k : Tx) (n : Nat) : upMap .str h (.map id) (.str k) (.int .i64 (n : Int)) = some (.undef, h.set id (.map (msE (upMs ms k n)))) := by
  unfold upMap
  simp only [isKey, if_true, hi]
  rcases find_ms k ms 0 with ⟨i, h1, h2, h3, h4⟩ | ⟨h1, h2, h3⟩
  · rw [Nat.zero_add] at h1
    rw [h1, Option.bind_some]
    simp only [copy_int]
    rw [h4 _ n rfl]
  · rw [h1, Option.bind_some]
    simp only [copy_int]
    rw [h3 n]
theorem den_frz0 {P : Program} {pol : Pol} {f : FuncId} {fn : Func} {c : Code} {args : List AV} {v w : AV} {h h' : H} (hx : pol.ext f = none) (hf : P.funcs[f]? = some fn) (hb : fn.body = some c) (hm : pol.mode f = 0) (hok : (resOk fn && Nat.ble args.length fn.ntmps && (pol.ann f).1.q.all pol.still) = true) (n : Nat) (hp : pureL args = true)
    (he : body P (pol.ann f).1 (den P pol) fn (pol.ann f).2 n c args [] = some (.ret v, h')) (hz : v.freeze h' = some w) (hw : w.pure = true) (hro : retOk fn (.ret w) = true) : den P pol f args h = some (.ret w, h) := by
  refine den_pure hx hf hb hm hok n ?_
  unfold retChk pureCall
  rw [mapM_pure hp]
  simp only [hp, if_true, he]
  rw [hz]
  simp only [Option.bind_some, hw, Bool.true_or, Bool.and_true, if_true, hro]
abbrev HP (l : List Alarm) (d : List Nat) : H := [.arr [AL l] false, .arr (nvs d) false]
abbrev HQ (l : List Alarm) (R O : List Nat) (ms : List (Tx × Nat)) : H := [.arr [AL l] false, .arr (nvs R) false, .arr (nvs O) false, .map (msE ms)]
theorem hp_S (l : List Alarm) (d : List Nat) : HP l d = S (HP l []) 1 d := rfl
theorem hp_0 (l : List Alarm) (d : List Nat) : (HP l d)[0]? = some (.arr [AL l] false) := rfl
theorem al0 (l : List Alarm) : ([AL l] : List AV)[0]? = some (AL l) := rfl
theorem cmp_ok (l : List Alarm) (hl : l.length ≤ 2 ^ 40) : CmpOk (.func (.func n_finger_Ranks_c1) [] [.ptr 0 0]) 1 (HP l []) (Ahd l) l.length where
  canon := rfl
  call d x y hy hx := by
    refine ⟨cmpN (atA l x) (atA l y), ?_, ?_⟩
    · rw [← hp_S]
      rw [show callVal D (HP l d) (.func (.func n_finger_Ranks_c1) [] [.ptr 0 0]) [.int .i64 (x : Int), .int .i64 (y : Int)] = D n_finger_Ranks_c1 [.int .i64 (x : Int), .int .i64 (y : Int), .ptr 0 0] (HP l d) from rfl]
      refine finger_Ranks_c1.den 1 ?_ rfl
      rw [finger_Ranks_c1.f_eq (finger_Ranks_c1.fx 1)]
      have hyl : y < l.length := by omega
      simp only [ld_at (hp_0 l d), al0, bind_some', AL_at hx, AL_at hyl, ldAgg_rptr, Alarm.agg, canon_agg, Alarm.c_canon, cmp_den, retOr_ret, copy_int]
      rw [atA_eq hx, atA_eq hyl]
    · constructor
      · intro h; exact .inl h
      · rintro (h | h)
        · exact h
        · omega
theorem fill_loop {J : Jn (AEnd × H)} {k : Nat} (hJ : finger_Ranks.F D k J) (l : List Alarm) (hl : l.length ≤ 2 ^ 40) : ∀ (d i m : Nat), i + d = l.length → d < m →
    ∃ m', finger_Ranks.l0 J m (.ptr 0 0) (SL 1 l.length) (.int .i64 (l.length : Int)) (.int .i64 (i : Int)) (HP l (List.range' 0 i ++ List.replicate d 0)) = finger_Ranks.l0 J (m' + 1) (.ptr 0 0) (SL 1 l.length) (.int .i64 (l.length : Int)) (.int .i64 (l.length : Int)) (HP l (List.range' 0 l.length))
  | 0, i, m + 1, hi, _ => ⟨m, by rw [show i = l.length by omega]; simp⟩
  | d + 1, i, m + 1, hi, hm => by
    have hil : i < l.length := by omega
    obtain ⟨m', ih⟩ := fill_loop hJ l hl d (i + 1) m (by omega) (by omega)
    refine ⟨m', ?_⟩
    rw [finger_Ranks.l0_eq hJ]
    simp only [lssN, decide_eq_true hil, bind_some', condV_true, SL_at hil, copy_int]
    rw [hp_S, S_st (by simp) (by simp) i, bind_some', add1 i (by omega), bind_some', ← hp_S]
    have e : (List.range' 0 i ++ List.replicate (d + 1) 0).set i i = List.range' 0 (i + 1) ++ List.replicate d 0 := by
      rw [List.set_append_right _ _ (by simp), List.length_range', Nat.sub_self, List.range'_1_concat, List.replicate_succ]
      simp
    rw [e]
    exact ih
theorem count_ahead {l : List Alarm} {R1 R2 : List Nat} {i : Nat} (so : IsSort (Ahd l) (R1 ++ i :: R2) (List.range' 0 l.length)) : rankN l i = R1.countP fun j => twin l j i := by
  have s := ahd_strict l
  have nd : (R1 ++ i :: R2).Nodup := List.nodup_iff_pairwise_ne.mpr (List.Pairwise.imp (R := Ahd l) (S := fun a b => a ≠ b) (fun {x y} (h : Ahd l x y) (e : x = y) => s.irrefl y (by rw [e] at h; exact h)) so.up)
  have pm : (List.range' 0 l.length).Perm (R1 ++ i :: R2) := (List.perm_ext_iff_of_nodup List.nodup_range' nd).mpr fun x => (so.mem x).symm
  unfold rankN
  rw [pm.countP_eq, List.countP_append, List.countP_cons]
  obtain ⟨u1, u2, u3⟩ := List.pairwise_append.mp so.up
  have e1 : R1.countP (fun j => decide (Ahd l j i) && twin l j i) = R1.countP fun j => twin l j i := by
    apply List.countP_congr
    intro x hx
    rw [decide_eq_true (u3 x hx i (by simp)), Bool.true_and]
  have e2 : R2.countP (fun j => decide (Ahd l j i) && twin l j i) = 0 := by
    rw [List.countP_eq_zero]
    intro x hx
    have := (List.pairwise_cons.mp u2).1 x hx
    rw [decide_eq_false (s.asymm this), Bool.false_and]
    exact Bool.false_ne_true
  rw [e1, e2, decide_eq_false (s.irrefl i)]
  simp
theorem rank_fill {J : Jn (AEnd × H)} {k : Nat} (hJ : finger_Ranks.F D k J) (l : List Alarm) (hl : l.length ≤ 2 ^ 40) (f : Fit l) {R : List Nat} (so : IsSort (Ahd l) R (List.range' 0 l.length)) : ∀ (R2 R1 O : List Nat) (ms : List (Tx × Nat)) (m : Nat), R = R1 ++ R2 → R2.length < m → O.length = l.length → (∀ j ∈ R1, O[j]? = some (rankN l j)) → (∀ q, lkMs ms q = R1.countP fun j => decide (keyN (atA l j) = q)) →
    ∃ O' ms', O'.length = l.length ∧ (∀ j ∈ R, O'[j]? = some (rankN l j)) ∧ finger_Ranks.l1 J m (.ptr 0 0) (.slc 2 0 l.length 1) (.map 3) (SL 1 l.length) (.int .i64 (l.length : Int)) (.int .i64 (R1.length : Int)) (HQ l R O ms) = some (.ret (.slc 2 0 l.length 1), HQ l R O' ms')
  | [], R1, O, ms, m + 1, hR, _, hO, h1, _ => by
    have hRl : R.length = l.length := by rw [so.len, List.length_range']
    rw [List.append_nil] at hR
    subst hR
    refine ⟨O, ms, hO, h1, ?_⟩
    rw [finger_Ranks.l1_eq hJ, lssN, decide_eq_false (by omega)]
    simp only [bind_some', condV_false]
  | i :: R2, R1, O, ms, m + 1, hR, hm, hO, h1, h2 => by
    have hRl : R.length = l.length := by rw [so.len, List.length_range']
    have ht : R1.length < l.length := by rw [← hRl, hR]; simp
    have hit : R[R1.length]? = some i := by rw [hR]; simp
    have hil : i < l.length := by
      have : i ∈ R := by rw [hR]; simp
      have := (so.mem i).mp this
      simpa using this
    have hr : rankN l i = lkMs ms (keyN l[i]) := by
      rw [h2, count_ahead (hR ▸ so)]
      apply List.countP_congr
      intro x _
      unfold twin
      rw [atA_eq hil]
    have hcnt : lkMs ms (keyN l[i]) ≤ l.length := by rw [← hr]; exact rankN_le l i
    obtain ⟨O', ms', q1, q2, ih⟩ := rank_fill hJ l hl f so R2 (R1 ++ [i]) (O.set i (rankN l i)) (upMs ms (keyN l[i]) (lkMs ms (keyN l[i]) + 1)) m (by rw [hR]; simp) (by simp at hm; omega) (by rw [List.length_set]; exact hO) (fun j hj => by
      rcases List.mem_append.mp hj with hj | hj
      · by_cases e : i = j
        · subst e; rw [List.getElem?_set_self (by omega)]
        · rw [List.getElem?_set_ne e]; exact h1 j hj
      · rw [List.mem_singleton.mp hj, List.getElem?_set_self (by omega)]) (fun q => by
      rw [lk_up, List.countP_append, ← h2 q, List.countP_singleton, atA_eq hil]
      by_cases e : q = keyN l[i]
      · rw [if_pos e, decide_eq_true e.symm, e]; rfl
      · rw [if_neg e, decide_eq_false (fun h => e h.symm)]; rfl)
    refine ⟨O', ms', q1, q2, ?_⟩
    have g0 : (HQ l R O ms)[0]? = some (.arr [AL l] false) := rfl
    have g1 : (HQ l R O ms)[1]? = some (.arr (nvs R) false) := rfl
    have g2 : (HQ l R O ms)[2]? = some (.arr (nvs O) false) := rfl
    have g3 : (HQ l R O ms)[3]? = some (.map (msE ms)) := rfl
    have g4 : (HQ l R (O.set i (rankN l i)) ms)[3]? = some (.map (msE ms)) := rfl
    have gR : (nvs R)[0 + R1.length * 1]? = some (.int .i64 (i : Int)) := by rw [Nat.zero_add, Nat.mul_one, List.getElem?_map, hit]; rfl
    have st : stN 1 (HQ l R O ms) (.ptr 2 (0 + i * 1)) (.int .i64 (lkMs ms (keyN l[i]) : Int)) = some (.undef, HQ l R (O.set i (rankN l i)) ms) := by
      rw [st_int g2 (by simp; omega), Nat.zero_add, Nat.mul_one, nvs_set, hr]; rfl
    have at2 : ixSlice 1 (.slc 2 0 l.length 1) (.int .i64 (i : Int)) = some (.ptr 2 (0 + i * 1)) := SL_at hil
    rw [finger_Ranks.l1_eq hJ, lssN, decide_eq_true ht]
    simp only [bind_some', condV_true, SL_at ht, ld_at g1, gR, ld_at g0, al0, AL_at hil, ldAgg_rptr, Alarm.agg, canon_agg, Alarm.c_canon, key_den _ (f _ (List.getElem_mem hil)), retOr_ret, BL_toStr, lk_ms g3, at2, copy_int, st, lk_ms g4, add1 _ (show lkMs ms (keyN l[i]) < 2 ^ 60 by omega), up_ms g4, add1 _ (show R1.length < 2 ^ 60 by omega)]
    rw [List.length_append, List.length_singleton] at ih
    exact ih
def ranksN (l : List Alarm) : List Int := (List.range' 0 l.length).map fun i => (rankN l i : Int)
theorem chunks_nvs : ∀ (O : List Nat), chunks 1 O.length (nvs O) = O.map fun n : Nat => [AV.int .i64 (n : Int)]
  | [] => rfl
  | n :: O => by
    show [AV.int .i64 (n : Int)] :: chunks 1 O.length (nvs O) = _
    rw [chunks_nvs O]
    rfl
theorem ranks_den (l : List Alarm) (hl : l.length ≤ 2 ^ 38) (f : Fit l) (h : H) : D n_finger_Ranks [AL l] h = some (.ret (IL (ranksN l)), h) := by
  have hJ := finger_Ranks.fx (l.length + 1)
  obtain ⟨m', e0⟩ := fill_loop hJ l (by omega) l.length 0 (l.length + 1) (by omega) (by omega)
  obtain ⟨R, so, e1⟩ := stable_den (cmp_ok l (by omega)) (ahd_strict l) (show 1 < (HP l []).length by simp) (T := List.range' 0 l.length) (by simp; omega) List.pairwise_lt_range' (fun y hy => by simpa using hy)
  rw [List.length_range', ← hp_S, ← hp_S] at e1
  have hRl : R.length = l.length := by rw [so.len, List.length_range']
  obtain ⟨O, ms, q1, q2, e2⟩ := rank_fill hJ l (by omega) f so R [] (List.replicate l.length 0) [] (l.length + 1) (by simp) (by omega) (by simp) (fun j hj => by cases hj) (fun q => rfl)
  have mk1 : ∀ (hh : H), mkSlice 1 8 [.int .i64 0] false hh (.int .i64 (l.length : Int)) (.int .i64 (l.length : Int)) = some (.slc hh.length 0 l.length 1, hh ++ [.arr (nvs (List.replicate l.length 0)) false]) := by
    intro hh
    unfold mkSlice
    simp only
    rw [if_pos ⟨by omega, by omega, by omega, by omega⟩]
    have : ∀ n : Nat, (List.replicate n [AV.int .i64 0]).flatten = nvs (List.replicate n 0) := by
      intro n
      induction n with
      | zero => rfl
      | succ n ih => rw [List.replicate_succ, List.flatten_cons, ih, List.replicate_succ]; rfl
    simp [this]
  have key : finger_Ranks.f (finger_Ranks.JD (l.length + 1)) (AL l) [] = some (.ret (.slc 2 0 l.length 1), HQ l R O ms) := by
    rw [finger_Ranks.f_eq hJ]
    rw [show bx [] (AV.copy (AL l)) = some (.ptr 0 0, [.arr [AL l] false]) from rfl]
    have g : ([AObj.arr [AL l] false] : H)[0]? = some (.arr [AL l] false) := rfl
    simp only [bind_some', ld_at g, al0, AL_len, mk1]
    have g2 : ([AObj.arr [AL l] false] ++ [AObj.arr (nvs (List.replicate l.length 0)) false] : H)[0]? = some (.arr [AL l] false) := rfl
    simp only [ld_at g2, al0, bind_some', AL_len]
    refine Eq.trans e0 ?_
    rw [finger_Ranks.l0_eq hJ, lssN, decide_eq_false (Nat.lt_irrefl _)]
    simp only [bind_some', condV_false]
    rw [show AV.canon (SL 1 l.length) = SL 1 l.length from rfl, show AV.canon (.func (.func n_finger_Ranks_c1) [] [AV.copy (.ptr 0 0)]) = .func (.func n_finger_Ranks_c1) [] [.ptr 0 0] from rfl, e1]
    simp only [bind_some', retOr_ret, ld_at (hp_0 l R), al0, AL_len, mk1]
    rw [show lnSl (SL 1 l.length) = some (.int .i64 (l.length : Int)) from rfl]
    exact e2
  refine den_frz0 (fn := Try.f15) (c := finger_Ranks.c) (v := .slc 2 0 l.length 1) (h' := HQ l R O ms) (by kernel_rfl) Try.func15 (by kernel_rfl) (by kernel_rfl) (by kernel_rfl) (l.length + 1) (by simp [pureL, AV.pure]) ?_ ?_ (by simp [AV.pure]) rfl
  · rw [show (pol.ann n_finger_Ranks).1 = finger_Ranks.A by kernel_rfl, show (pol.ann n_finger_Ranks).2 = finger_Ranks.an by kernel_rfl, body_real _ _ (by kernel_rfl)]
    exact key
  · have eO : O = (List.range' 0 l.length).map (rankN l) := by
      apply List.ext_getElem?
      intro j
      by_cases hj : j < l.length
      · rw [q2 j ((so.mem j).mpr (by simp [hj])), List.getElem?_map, List.getElem?_range' hj]
        simp
      · rw [List.getElem?_eq_none (by omega), List.getElem?_eq_none (by simp; omega)]
    have hc := chunks_nvs O
    rw [q1] at hc
    have hlen : (nvs O).length = l.length := by simp [q1]
    simp only [AV.freeze, AV.freezeAgg, AV.freezeCell, List.getElem?_cons_succ, List.getElem?_cons_zero, List.drop_zero, hlen, Nat.zero_add, Nat.mul_one, Nat.le_refl, if_true, hc]
    rw [eO]
    simp [ranksN, List.map_map, Function.comp_def]
theorem of_loop {J : Jn (AEnd × H)} {k : Nat} (hJ : finger_Of.F D k J) (l : List Alarm) (hl : l.length ≤ 2 ^ 38) (f : Fit l) (h : H) : ∀ (d j m : Nat) (acc : List Int) (o : Own), j + d = l.length → d < m → acc.length + d ≤ 2 ^ 39 → apOk o →
    ∃ o', apOk o' ∧ finger_Of.l0 J m (AL l) (FL acc o) (IL (ranksN l)) (.int .i64 (l.length : Int)) (.int .i64 (j : Int)) h = some (.ret (FL (acc ++ (List.range' j d).map fun i => oneN (atA l i) (rankN l i)) o'), h)
  | 0, j, m + 1, acc, o, hj, _, _, ho => by
    refine ⟨o, ho, ?_⟩
    rw [finger_Of.l0_eq hJ]
    simp only [lssN, decide_eq_false (show ¬ j < l.length by omega), bind_some', condV_false]
    simp
  | d + 1, j, m + 1, acc, o, hj, hm, ha, ho => by
    have hjl : j < l.length := by omega
    have hjr : j < (ranksN l).length := by simp [ranksN]; exact hjl
    have e0 : atA l j = l[j] := atA_eq hjl
    have hr := rankN_le l j
    have er : (ranksN l)[j] = (rankN l j : Int) := by simp [ranksN]
    obtain ⟨o', ho', ih⟩ := of_loop hJ l hl f h d (j + 1) m (acc ++ [oneN l[j] (rankN l j)]) (.own 1) (by omega) (by omega) (by rw [List.length_append]; simp; omega) (.inr rfl)
    refine ⟨o', ho', ?_⟩
    rw [finger_Of.l0_eq hJ, List.range'_succ, List.map_cons, e0]
    simp only [lssN, decide_eq_true hjl, bind_some', condV_true, IL_at hjr, ldCell_rptr, one0, er, AL_at hjl, ldAgg_rptr, Alarm.agg, canon_int, canon_agg, Alarm.c_canon, one_den _ (f _ (List.getElem_mem hjl)) (rankN l j) (by omega), retOr_ret, mkF, FL_app ho.may (show acc.length + [oneN l[j] (rankN l j)].length ≤ 2 ^ 40 by simp; omega), add1 j (by omega)]
    rw [ih]
    simp
theorem of_den (l : List Alarm) (hl : l.length ≤ 2 ^ 38) (f : Fit l) (h : H) : ∃ o, apOk o ∧ D n_finger_Of [AL l] h = some (.ret (FL (ofN l) o), h) := by
  obtain ⟨o, ho, e⟩ := of_loop (finger_Of.fx (l.length + 1)) l hl f [] l.length 0 (l.length + 1) [] .cap (by omega) (by omega) (by simp; omega) (.inl rfl)
  refine ⟨o, ho, finger_Of.den (l.length + 1) (by simp) (h' := []) ?_ (by simp [AV.pure]) (by rcases ho with rfl | rfl <;> rfl)⟩
  rw [finger_Of.f_eq (finger_Of.fx _)]
  simp only [AL_canon, ranks_den l hl f, bind_some', retOr_ret, IL_len]
  rw [show ((ranksN l).length : Int) = (l.length : Int) by simp [ranksN]]
  exact e
end Go.Proofs.Ytdggnlgklicbdaa

open Go Go.Ve Go.Proofs
namespace Go.Proofs.Ytdggnlgklicbdaa
set_option maxRecDepth 100000
set_option linter.all false
def Alarm.big (a : Alarm) : Bool := decide (300 < a.func.length) || (decide (300 < a.file.length) || decide (300 < a.expr.length))
def large (l : List Alarm) : Bool := decide (100 < l.length) || l.any Alarm.big
theorem gtr300 (n : Nat) : bin .gtr (.int .i64 (n : Int)) (.int .i64 300) = some (.bool (decide (300 < n))) := gtrN n 300
theorem large_loop {J : Jn (AEnd × H)} {k : Nat} (hJ : ref17_Large.F D k J) (l : List Alarm) (hl : l.length ≤ 2 ^ 50) (h : H) : ∀ (d i m : Nat), i + d = l.length → d < m →
    ref17_Large.l0 J m (AL l) (.int .i64 (i : Int)) h = some (.ret (.bool ((l.drop i).any Alarm.big)), h)
  | 0, i, m + 1, hi, _ => by
    rw [ref17_Large.l0_eq hJ]
    simp only [AL_len, lssN, decide_eq_false (show ¬ i < l.length by omega), bind_some', condV_false]
    rw [List.drop_of_length_le (by omega)]; rfl
  | d + 1, i, m + 1, hi, hm => by
    have hil : i < l.length := by omega
    have ih := large_loop hJ l hl h d (i + 1) m (by omega) (by omega)
    have j0 : ∀ b : Bool, ref17_Large.j0 J m (AL l) (.int .i64 (i : Int)) (.bool b) h = some (.ret (.bool (b || (l.drop (i + 1)).any Alarm.big)), h) := by
      intro b
      rw [ref17_Large.j0_eq hJ]
      cases b with
      | true => rw [condV_true]; rfl
      | false => simp only [condV_false, add1 i (by omega), bind_some', ih, Bool.false_or]
    rw [ref17_Large.l0_eq hJ, List.drop_eq_getElem_cons hil, List.any_cons]
    simp only [AL_len, lssN, decide_eq_true hil, bind_some', condV_true, AL_at hil, fAddr_rptr, ldCell_rptr, Alarm.f2, Alarm.f3, Alarm.f5, lnStr_str, gtr300, j0]
    unfold Alarm.big
    by_cases h1 : 300 < l[i].func.length
    · simp only [decide_eq_true h1, condV_true, Bool.true_or]
    · by_cases h2 : 300 < l[i].file.length
      · simp only [decide_eq_false h1, condV_false, decide_eq_true h2, condV_true, Bool.true_or, Bool.or_true]
      · simp only [decide_eq_false h1, condV_false, decide_eq_false h2, Bool.false_or]
theorem large_den (l : List Alarm) (h : H) : D n_warrantorref17_Large [AL l] h = some (.ret (.bool (large l)), h) := by
  refine ref17_Large.den (l.length + 1) (by simp) (h' := []) ?_ rfl rfl
  rw [ref17_Large.f_eq (ref17_Large.fx _)]
  rw [show (.int .i64 100 : AV) = .int .i64 ((100 : Nat) : Int) from rfl]
  simp only [AL_len, bind_some', gtrN, large]
  by_cases h1 : 100 < l.length
  · rw [decide_eq_true h1, condV_true]; rfl
  · rw [decide_eq_false h1, condV_false, Bool.false_or]
    have := large_loop (ref17_Large.fx (l.length + 1)) l (by omega) [] l.length 0 (l.length + 1) (by omega) (by omega)
    exact this
def Alarm.Int (a : Alarm) : Prop := a.kind < 2 ^ 63 ∧ -2 ^ 63 ≤ a.line ∧ a.line < 2 ^ 63
theorem small_fit {l : List Alarm} (h : large l = false) (hi : ∀ a ∈ l, a.Int) : l.length ≤ 100 ∧ Fit l := by
  unfold large at h
  rw [Bool.or_eq_false_iff] at h
  refine ⟨by have := of_decide_eq_false h.1; omega, fun a ha => ?_⟩
  have hb := (List.any_eq_false.mp h.2) a ha
  unfold Alarm.big at hb
  simp only [Bool.or_eq_true, decide_eq_true_eq, not_or] at hb
  exact ⟨(hi a ha).1, by omega, by omega, by omega⟩
theorem wsame_den (a b : List Int) (ha : a.length ≤ 2 ^ 50) (h : H) : D n_warrantorref10_Same [.agg [IL a, IL []], .agg [IL b, IL []]] h = some (.ret (.bool (decide (a = b))), h) := by
  have hJ := ref10_Same.fx (a.length + 2)
  have g0 : ([AObj.arr [IL a, IL []] false, AObj.arr [IL b, IL []] false] : H)[0]? = some (.arr [IL a, IL []] false) := rfl
  have g1 : ([AObj.arr [IL a, IL []] false, AObj.arr [IL b, IL []] false] : H)[1]? = some (.arr [IL b, IL []] false) := rfl
  have c0 : ∀ x : List Int, ([IL x, IL []] : List AV)[0 + 0]? = some (IL x) := fun _ => rfl
  have c1 : ∀ x : List Int, ([IL x, IL []] : List AV)[0 + 1]? = some (IL []) := fun _ => rfl
  have e0 : lnSl (IL []) = some (.int .i64 ((0 : Nat) : Int)) := rfl
  have last : ∀ m, ref10_Same.l1 (ref10_Same.JD (a.length + 2)) (m + 1) (.ptr 0 0) (.ptr 1 0) (.int .i64 0) [.arr [IL a, IL []] false, .arr [IL b, IL []] false] = some (.ret (.bool true), [.arr [IL a, IL []] false, .arr [IL b, IL []] false]) := by
    intro m
    rw [ref10_Same.l1_eq hJ, show (.int .i64 0 : AV) = .int .i64 ((0 : Nat) : Int) from rfl]
    simp only [fAddr_ptr, bind_some', ld_at g0, c1, e0, lssN, decide_eq_false (Nat.lt_irrefl 0), condV_false]
  have loop : a.length = b.length → ∀ (d i m : Nat), i + d = a.length → d < m → ref10_Same.l0 (ref10_Same.JD (a.length + 2)) m (.ptr 0 0) (.ptr 1 0) (.int .i64 (i : Int)) [.arr [IL a, IL []] false, .arr [IL b, IL []] false] = some (.ret (.bool (decide (a.drop i = b.drop i))), [.arr [IL a, IL []] false, .arr [IL b, IL []] false]) := by
    intro he d
    induction d with
    | zero =>
      intro i m hi hm
      obtain ⟨m, rfl⟩ : ∃ q, m = q + 1 := ⟨m - 1, by omega⟩
      rw [ref10_Same.l0_eq hJ]
      simp only [fAddr_ptr, bind_some', ld_at g0, c0, IL_len, lssN, decide_eq_false (show ¬ i < a.length by omega), condV_false]
      rw [last, List.drop_of_length_le (by omega), List.drop_of_length_le (by omega)]; simp
    | succ d ih =>
      intro i m hi hm
      obtain ⟨m, rfl⟩ : ∃ q, m = q + 1 := ⟨m - 1, by omega⟩
      have h1 : i < a.length := by omega
      have h2 : i < b.length := by omega
      have ih := ih (i + 1) m (by omega) (by omega)
      rw [ref10_Same.l0_eq hJ, List.drop_eq_getElem_cons h1, List.drop_eq_getElem_cons h2]
      simp only [fAddr_ptr, bind_some', ld_at g0, ld_at g1, c0, IL_len, lssN, decide_eq_true h1, condV_true, IL_at h1, IL_at h2, ldCell_rptr, one0, bin_neq, add1 i (by omega), ih]
      by_cases hz : a[i] = b[i]
      · rw [decide_eq_false (fun h => h hz), condV_false]
        have e : (a[i] :: a.drop (i + 1) = b[i] :: b.drop (i + 1)) ↔ (a.drop (i + 1) = b.drop (i + 1)) := by rw [hz]; simp only [List.cons.injEq, true_and]
        rw [decide_eq_decide.mpr e]
      · rw [decide_eq_true hz, condV_true, decide_eq_false (fun h => hz (List.cons.inj h).1)]
  have j1 : ∀ t : Bool, ref10_Same.j1 (ref10_Same.JD (a.length + 2)) (.ptr 0 0) (.ptr 1 0) (.bool t) [.arr [IL a, IL []] false, .arr [IL b, IL []] false] = if t = true then some (.ret (.bool false), [.arr [IL a, IL []] false, .arr [IL b, IL []] false]) else ref10_Same.l0 (ref10_Same.JD (a.length + 2)) (a.length + 2) (.ptr 0 0) (.ptr 1 0) (.int .i64 0) [.arr [IL a, IL []] false, .arr [IL b, IL []] false] := by
    intro t
    rw [ref10_Same.j1_eq hJ]
    cases t with
    | true => rw [condV_true, if_pos rfl]
    | false => rw [condV_false, if_neg Bool.false_ne_true, ref10_Same.j0_eq hJ]
  refine ref10_Same.den (a.length + 2) (by simp [pureL, AV.pure]) (h' := [.arr [IL a, IL []] false, .arr [IL b, IL []] false]) ?_ rfl rfl
  rw [ref10_Same.f_eq hJ]
  rw [show bx ([] : H) (AV.copy (.agg [IL a, IL []])) = some (.ptr 0 0, [.arr [IL a, IL []] false]) from rfl, bind_some']
  rw [show bx ([.arr [IL a, IL []] false] : H) (AV.copy (.agg [IL b, IL []])) = some (.ptr 1 0, [.arr [IL a, IL []] false, .arr [IL b, IL []] false]) from rfl]
  simp only [bind_some', fAddr_ptr, ld_at g0, ld_at g1, c0, c1, IL_len, e0, neqN]
  by_cases he : a.length = b.length
  · rw [decide_eq_false (fun h => h he), condV_false, decide_eq_false (fun h => h rfl), j1, if_neg Bool.false_ne_true]
    have := loop he a.length 0 (a.length + 2) (by omega) (by omega)
    exact this
  · rw [decide_eq_true he, condV_true, j1, if_pos rfl, decide_eq_false (fun h => he (by rw [h]))]
theorem large1_den (a : Alarm) (h : H) : D n_warrantorref17_Large [AL [a]] h = some (.ret (.bool a.big), h) := by
  rw [large_den [a]]
  simp [large]
theorem fo_loop {J : Jn (AEnd × H)} {k : Nat} (hJ : law20_FingerOf.F D k J) (l : List Alarm) (hl : l.length ≤ 2 ^ 38) (f : Fit l) (a : Alarm) (fa : a.Fits) (r : Int) (hr : r < 2 ^ 63) (h : H) (hg : h[0]? = some (.arr a.c false)) : ∀ (d j m : Nat) (acc : List Int) (o : Own), j + d = l.length → d < m → acc.length + d ≤ 2 ^ 39 → apOk o →
    acc ++ (List.range' j d).map (fun i => (rankN l i : Int)) = ranksN l → law20_FingerOf.l0 J m (AL l) (.int .i64 r) (.ptr 0 0) (IL acc o) (.int .i64 (j : Int)) h = some (.ret (.bool true), h)
  | 0, j, m + 1, acc, o, hj, _, _, ho, hacc => by
    obtain ⟨o1, _, e1⟩ := of_den l hl f h
    obtain ⟨o2, _, e2⟩ := rof_den l hl f h
    have hacc : acc = ranksN l := by rw [← hacc]; simp
    have cp : ∀ o, apOk o → mkAgg [.list [] .cap, .list [] .cap] [(0, 1, AV.copy (IL (ranksN l) o))] = some (.agg [AV.copy (IL (ranksN l) o), .list [] .cap]) := fun o ho => by rcases ho with rfl | rfl <;> rfl
    have cn : ∀ o, apOk o → AV.canon (.agg [AV.copy (IL (ranksN l) o), .list [] .cap]) = .agg [IL (ranksN l), IL []] := fun o ho => by rcases ho with rfl | rfl <;> rfl
    rw [law20_FingerOf.l0_eq hJ]
    simp only [AL_len, lssN, decide_eq_false (show ¬ j < l.length by omega), bind_some', condV_false, lives20_den, retOr_ret, condV_true, ldA_at hg, Alarm.agg, canon_agg, Alarm.c_canon, canon_int, one_den a fa r hr, rone_den a fa r hr, bin_eql, decide_true, AL_canon, ranks_den l hl f]
    subst hacc
    rw [show mkAgg [.list [] .cap, .list [] .cap] [(0, 1, AV.copy (IL (ranksN l)))] = some (.agg [IL (ranksN l), .list [] .cap]) from rfl, cp o ho]
    simp only [bind_some']
    rw [show AV.canon (.agg [IL (ranksN l), .list [] .cap]) = .agg [IL (ranksN l), IL []] from rfl, cn o ho, wsame_den _ _ (by simp [ranksN]; omega)]
    simp only [bind_some', retOr_ret, decide_true, condV_true, e1, e2, FL_canon, fsame_den (ofN l) (ofN l) (by rw [ofN_len]; omega), copy_bool]
  | d + 1, j, m + 1, acc, o, hj, hm, ha, ho, hacc => by
    have hjl : j < l.length := by omega
    have ih := fo_loop hJ l hl f a fa r hr h hg d (j + 1) m (acc ++ [(rankN l j : Int)]) (.own 1) (by omega) (by omega) (by rw [List.length_append]; simp; omega) (.inr rfl) (by rw [← hacc, List.range'_succ, List.map_cons]; simp)
    rw [law20_FingerOf.l0_eq hJ]
    simp only [AL_len, lssN, decide_eq_true hjl, bind_some', condV_true, AL_canon, canon_int, rank_den l (by omega) f j hjl, retOr_ret, mkI, IL_app ho.may (show acc.length + [(rankN l j : Int)].length ≤ 2 ^ 40 by simp; omega), add1 j (by omega)]
    exact ih
theorem fingerOf_den (l : List Alarm) (hi : ∀ a ∈ l, a.Int) (a : Alarm) (ha : a.Int) (r : Int) (hr : r < 2 ^ 63) : D n_warrantorlaw20_FingerOf [AL l, .agg a.c, .int .i64 r] [] = some (.ret (.bool true), []) := by
  have hJ := law20_FingerOf.fx (l.length + 1)
  have g : ([AObj.arr a.c false] : H)[0]? = some (.arr a.c false) := rfl
  refine law20_FingerOf.den (l.length + 1) (by simp [pureL, AV.pure]) (h' := [.arr a.c false]) ?_ rfl rfl
  have j1 : ∀ t : Bool, (t = false → large l = false ∧ a.big = false) → law20_FingerOf.j1 (law20_FingerOf.JD (l.length + 1)) (AL l) (.int .i64 r) (.ptr 0 0) (.bool t) [.arr a.c false] = some (.ret (.bool true), [.arr a.c false]) := by
    intro t ht
    rw [law20_FingerOf.j1_eq hJ]
    cases t with
    | true => simp only [condV_true, lives20_den, bind_some', retOr_ret]
    | false =>
      obtain ⟨h1, h2⟩ := ht rfl
      obtain ⟨h3, f⟩ := small_fit h1 hi
      obtain ⟨_, fa⟩ := small_fit (l := [a]) (by simp [large, h2]) (fun b hb => by rw [List.mem_singleton.mp hb]; exact ha)
      rw [condV_false, law20_FingerOf.j0_eq hJ]
      exact fo_loop hJ l (by omega) f a (fa a (by simp)) r hr _ g l.length 0 (l.length + 1) [] .cap (by omega) (by omega) (by simp; omega) (.inl rfl) (by simp [ranksN])
  rw [law20_FingerOf.f_eq hJ, bx_alarm]
  simp only [bind_some', List.length_nil, List.nil_append, AL_canon, large_den l, retOr_ret]
  cases hb : large l with
  | true => rw [condV_true]; exact j1 true (fun h => by cases h)
  | false =>
    rw [condV_false]
    simp only [ldA_at g, Alarm.agg, bind_some']
    rw [show mkRows 6 [.int .i64 0, .int .i64 0, .str [], .str [], .int .i64 0, .str []] 1 [(0, .agg a.c)] = some (AL [a] .cap) from rfl]
    simp only [bind_some', AL_canon, large1_den, retOr_ret]
    exact j1 _ (fun h => ⟨hb, h⟩)
end Go.Proofs.Ytdggnlgklicbdaa
