/- The laws of the filters' layer: AskDeep. -/
import Derived.Test.YtigkhjmlomogmaaP32B
set_option linter.all false

open Go Go.Ve Go.Proofs
namespace Go.Proofs.Ytigkhjmlomogmaa
set_option maxRecDepth 100000
set_option linter.all false

def allT : Term := ⟨1, 0, 0, 0, []⟩
def orT : Term := ⟨5, 0, 0, 0, []⟩
def nots : Nat → Fl
  | 0 => .leaf allT
  | n + 1 => .not notT (nots n)
def ors : Nat → Fl
  | 0 => .leaf allT
  | n + 1 => .two orT (.leaf allT) (ors n)
theorem nots_wf : ∀ n, (nots n).wf
  | 0 => (rfl : about allT = 0)
  | n + 1 => ⟨(rfl : about notT = 1), nots_wf n⟩
theorem ors_wf : ∀ n, (ors n).wf
  | 0 => (rfl : about allT = 0)
  | n + 1 => ⟨(rfl : about orT = 2), (rfl : about allT = 0), ors_wf n⟩
theorem nots_enc : ∀ n, (nots n).enc = List.replicate n notT ++ [allT]
  | 0 => rfl
  | n + 1 => by show notT :: (nots n).enc = _; rw [nots_enc n]; rfl
def orL : Nat → List Term
  | 0 => []
  | n + 1 => orL n ++ [orT, allT]
theorem orL_front : ∀ n, orL (n + 1) = orT :: allT :: orL n
  | 0 => rfl
  | n + 1 => by show orL (n + 1) ++ [orT, allT] = orT :: allT :: (orL n ++ [orT, allT]); rw [orL_front n]; rfl
theorem ors_enc : ∀ n, (ors n).enc = orL n ++ [allT]
  | 0 => rfl
  | n + 1 => by show orT :: ([allT] ++ (ors n).enc) = _; rw [ors_enc n, orL_front]; rfl
theorem orL_len : ∀ n, (orL n).length = 2 * n
  | 0 => rfl
  | n + 1 => by rw [orL, List.length_append, orL_len n]; simp; omega
theorem nots_nest : ∀ n, (nots n).nest = n + 1
  | 0 => rfl
  | n + 1 => by show (nots n).nest + 1 = _; rw [nots_nest n]; omega
theorem ors_nest : ∀ n, (ors n).nest = n + 1
  | 0 => rfl
  | n + 1 => by
    show max (Fl.nest (.leaf allT)) (ors n).nest + 1 = _
    rw [ors_nest n]
    show max 1 _ + 1 = _
    omega
theorem nots_filter (n : Nat) : filterE (List.replicate n notT ++ [allT]) = if 32 < n + 1 then 3 else 0 := by
  have h := filter_enc (nots_wf n)
  rw [nots_enc, nots_nest] at h
  rw [h]
  simp only [List.length_append, List.length_replicate, List.length_cons, List.length_nil]
  split <;> split <;> first | rfl | omega | (split <;> first | rfl | omega) | skip
theorem ors_filter (n : Nat) : filterE (orL n ++ [allT]) = if 32 < n + 1 then 3 else 0 := by
  have h := filter_enc (ors_wf n)
  rw [ors_enc, ors_nest] at h
  rw [h]
  simp only [List.length_append, orL_len, List.length_cons, List.length_nil]
  split <;> split <;> first | rfl | omega | (split <;> first | rfl | omega) | skip

theorem mk_not : mkAgg [.int .i64 0, .int .i64 0, .int .i64 0, .int .i64 0, .str []] [(0, 1, .int .i64 3)] = some (.agg notT.c) := rfl
theorem mk_or : mkAgg [.int .i64 0, .int .i64 0, .int .i64 0, .int .i64 0, .str []] [(0, 1, .int .i64 5)] = some (.agg orT.c) := rfl
theorem mk_all : mkAgg [.int .i64 0, .int .i64 0, .int .i64 0, .int .i64 0, .str []] [(0, 1, .int .i64 1)] = some (.agg allT.c) := rfl
theorem mk_one (t : Term) : mkRows 5 [.int .i64 0, .int .i64 0, .int .i64 0, .int .i64 0, .str []] 1 [(0, .agg t.c)] = some (TL [t] .cap) := rfl
theorem mk_two (t u : Term) : mkRows 5 [.int .i64 0, .int .i64 0, .int .i64 0, .int .i64 0, .str []] 2 [(0, .agg t.c), (1, .agg u.c)] = some (TL [t, u] .cap) := rfl
theorem ap_TL (a b : List Term) {o o' : Own} (ho : mayApp o 5 true = true) (hl : a.length + b.length ≤ 1000000) : apSlice 5 48 false true [] (TL a o) (TL b o') = some (TL (a ++ b) (.own 5)) := by
  have := ap_map (h := []) (f := Term.c) (l := a) (l' := b) (o := o) (o' := o') (bytes := 48) (byte := false) (owned := true) ho (by decide) Term.c_len (by omega) (by omega)
  exact this
theorem deep_end {x : Nat} {J : Jn (AEnd × H)} (hJ : warrantorlaw32_AskDeep.F D x J) (n : Nat) (hn : n ≤ 150) (o o' : Own) : warrantorlaw32_AskDeep.j2 J (TL (List.replicate n notT ++ [allT]) o) (TL (orL n ++ [allT]) o') (.int .i64 (if 32 < n + 1 then 3 else 0)) (.int .i64 (if 32 < n + 1 then 3 else 0)) [] = some (.ret (.bool true), []) := by
  rw [warrantorlaw32_AskDeep.j2_eq hJ]
  have h1 := Filter_den (List.replicate n notT ++ [allT]) []
  have h2 := Filter_den (orL n ++ [allT]) []
  rw [nots_filter] at h1
  rw [ors_filter] at h2
  simp only [lives_den [], bind_some', retOr_ret, condV_true, canon_TL, h1, h2, bin_eql, decide_true, copy_bool]
theorem deep_loop {n : Nat} {J : Jn (AEnd × H)} (hJ : warrantorlaw32_AskDeep.F D n J) (k : Nat) (hk : k ≤ 150) : ∀ (d i m : Nat), i + d = k → d < m → ∀ o o' : Own, mayApp o 5 true = true → mayApp o' 5 true = true →
    warrantorlaw32_AskDeep.l0 J m (.int .i64 k) (TL (List.replicate i notT) o) (TL (orL i) o') (.int .i64 i) [] = some (.ret (.bool true), [])
  | 0, i, m + 1, h1, _, o, o', ho, ho' => by
    obtain rfl : i = k := by omega
    rw [warrantorlaw32_AskDeep.l0_eq hJ]
    have l2 := orL_len i
    have a1 := ap_TL (List.replicate i notT) [allT] (o' := .cap) ho (by simp; omega)
    have a2 := ap_TL (orL i) [allT] (o' := .cap) ho' (by simp; omega)
    have e := deep_end hJ i hk (.own 5) (.own 5)
    simp only [bin_lss, Int.lt_irrefl, decide_false, bind_some', condV_false, copy_int, mk_all, mk_one, a1, a2, bin_add, wrap_i64 (show -9223372036854775808 ≤ (i : Int) + 1 by omega) (by omega), bin_gtr]
    by_cases hd : 32 < i + 1
    · rw [if_pos hd] at e
      simp only [decide_eq_true (show ((i : Int) + 1 > 32) by omega), condV_true, e]
    · rw [if_neg hd] at e
      simp only [decide_eq_false (show ¬ ((i : Int) + 1 > 32) by omega), condV_false, e]
  | d + 1, i, m + 1, h1, h2, o, o', ho, ho' => by
    have ih := deep_loop hJ k hk d (i + 1) m (by omega) (by omega) (.own 5) (.own 5) rfl rfl
    rw [warrantorlaw32_AskDeep.l0_eq hJ]
    have l2 := orL_len i
    have a1 := ap_TL (List.replicate i notT) [notT] (o' := .cap) ho (by simp; omega)
    have a2 := ap_TL (orL i) [orT, allT] (o' := .cap) ho' (by simp; omega)
    have e1 : List.replicate i notT ++ [notT] = List.replicate (i + 1) notT := by rw [List.replicate_succ']
    rw [e1] at a1
    have e2 : orL i ++ [orT, allT] = orL (i + 1) := rfl
    rw [e2] at a2
    have e3 : ((i : Int) + 1) = ((i + 1 : Nat) : Int) := rfl
    simp only [bin_lss, decide_eq_true (show ((i : Int) < k) by omega), bind_some', condV_true, copy_int, mk_all, mk_not, mk_or, mk_one, mk_two, a1, a2, bin_add, wrap_i64 (show -9223372036854775808 ≤ (i : Int) + 1 by omega) (by omega)]
    exact ih
theorem deep_law (n : Int) : D 5 [.int .i64 n] [] = some (.ret (.bool true), []) := by
  refine warrantorlaw32_AskDeep.den 1000 (by simp) (h' := []) ?_ rfl rfl
  have hv := lives_den []
  rw [warrantorlaw32_AskDeep.f_eq (warrantorlaw32_AskDeep.fx 1000)]
  simp only [bin_lss, bind_some', warrantorlaw32_AskDeep.j1_eq (warrantorlaw32_AskDeep.fx 1000), bin_gtr, condV_true, hv, retOr_ret]
  by_cases h0 : n < 0
  · simp only [decide_eq_true h0, condV_true]
  · by_cases h1 : n > 150
    · simp only [decide_eq_false h0, decide_eq_true h1, condV_true, condV_false]
    · obtain ⟨k, rfl⟩ : ∃ k : Nat, n = k := ⟨n.toNat, by omega⟩
      have hl := deep_loop (warrantorlaw32_AskDeep.fx 1000) k (by omega) k 0 1000 (by omega) (by omega) .cap .cap rfl rfl
      simp only [decide_eq_false h0, decide_eq_false h1, condV_false, warrantorlaw32_AskDeep.j0_eq (warrantorlaw32_AskDeep.fx 1000)]
      exact hl
end Go.Proofs.Ytigkhjmlomogmaa
