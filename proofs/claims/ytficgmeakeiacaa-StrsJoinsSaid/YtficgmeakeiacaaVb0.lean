import Derived.Test.YtficgmeakeiacaaP5Ext
import Derived.Test.YtficgmeakeiacaaVa5
import Derived.Test.YtficgmeakeiacaaP5L
set_option linter.all false
open Go Go.Ve Go.Proofs
namespace Go.Proofs.Ytficgmeakeiacaa
set_option maxRecDepth 100000
set_option linter.all false
end Go.Proofs.Ytficgmeakeiacaa

open Go Go.Ve Go.Proofs
namespace Go.Proofs.Ytficgmeakeiacaa
set_option maxRecDepth 100000
set_option linter.all false
end Go.Proofs.Ytficgmeakeiacaa

open Go Go.Ve Go.Proofs
namespace Go.Proofs.Ytficgmeakeiacaa
set_option maxRecDepth 100000
set_option linter.all false
def PenAt (h : H) (id : Nat) (b : List UInt8) : Prop := ∃ o, mayApp o 1 true = true ∧ h[id]? = some (.arr [BL b o] false)
theorem PenAt.lt {h : H} {id : Nat} {b : List UInt8} (hr : PenAt h id b) : id < h.length := get_lt hr.choose_spec.2
end Go.Proofs.Ytficgmeakeiacaa

open Go Go.Ve Go.Proofs
namespace Go.Proofs.Ytficgmeakeiacaa
set_option maxRecDepth 100000
set_option linter.all false
theorem set_new {h : H} {x y : AObj} : (h ++ [x]).set h.length y = h ++ [y] := by simp [List.set_append]
theorem whenB_true {R : Type} {x : Option R} : whenB true x = x := rfl
section
abbrev cur_ask_int.V (v : Nat) : AV := .int .i64 v
theorem cur_ask_int.dc_none' {call : Cl} {n : Nat} (x0 x1 x2 : AV) (h : H) : cur_ask_int.dc call n n_cur_ask_int__c1 [x0, x1, x2] h .nilIface = some (h ++ [.arr [.int .i64 0] false]) := by
  rw [cur_ask_int.d57_eq]
  have hn : (h ++ [AObj.arr [.int .i64 0] false])[h.length]? = some (.arr [.int .i64 0] false) := get_new
  have e1 := st_agg (off := 0) (n := 1) (vs := [.int .i64 0]) hn (by simp) rfl rfl
  simp only [taTo, if_true, bind_some', exTuple_eq]
  rw [show ([AV.agg [AV.int .i64 0], AV.bool false])[0]? = some (AV.agg [AV.int .i64 0]) from rfl, show ([AV.agg [AV.int .i64 0], AV.bool false])[1]? = some (AV.bool false) from rfl]
  simp only [bind_some', condV_false]
  rw [show AV.copy (.agg [.int .i64 0]) = .agg [.int .i64 0] from rfl, e1]
  simp only [bind_some']
  congr 1
  simp [set_new]
theorem cur_ask_int.dc_pan {call : Cl} {n : Nat} {h : H} {s r a id : Nat} {b : AV} {p e : Int} {p' e' w : AV} (hs : h[s]? = some (.arr [.int .i64 p] false)) (hr : h[r]? = some (.arr [w] false)) (ha : h[a]? = some (.arr [.ptr id 0] false)) (hi : h[id]? = some (.arr [b, p', e'] false))
    (h1 : s ≠ r) (h2 : s ≠ id) (h3 : a ≠ r) (h4 : a ≠ id) (h5 : r ≠ id) :
    ∃ h', cur_ask_int.dc call n n_cur_ask_int__c1 [.ptr s 0, .ptr r 0, .ptr a 0] h (.iface t_cur_broken (.agg [.int .i64 e])) = some h' ∧ Keep [id, r] h h' ∧ h'[id]? = some (.arr [b, .int .i64 p, .int .i64 e] false) ∧ h'[r]? = some (.arr [(AV.int .i64 0)] false) := by
  have hn : (h ++ [AObj.arr [.int .i64 0] false])[h.length]? = some (.arr [.int .i64 0] false) := get_new
  have e1 := st_agg (off := 0) (n := 1) (vs := [.int .i64 e]) hn (by simp) rfl rfl
  rw [show List.take 0 [AV.int .i64 0] ++ [AV.int .i64 e] ++ List.drop (0 + [AV.int .i64 e].length) [AV.int .i64 0] = [.int .i64 e] from rfl, set_new] at e1
  have lr := get_lt hr
  have li := get_lt hi
  obtain ⟨g, hg⟩ : ∃ g, g = h ++ [AObj.arr [.int .i64 e] false] := ⟨_, rfl⟩
  rw [← hg] at e1
  have gs : g[s]? = some (.arr [.int .i64 p] false) := hg ▸ get_app hs
  have gr : g[r]? = some (.arr [w] false) := hg ▸ get_app hr
  have ga : g[a]? = some (.arr [.ptr id 0] false) := hg ▸ get_app ha
  have gi : g[id]? = some (.arr [b, p', e'] false) := hg ▸ get_app hi
  have gn : g[h.length]? = some (.arr [.int .i64 e] false) := hg ▸ get_new
  have e2 : stN 1 g (.ptr r 0) (AV.int .i64 0) = some (.undef, g.set r (.arr [(AV.int .i64 0)] false)) := st_int gr (by simp)
  have k2 : Keep [r] g (g.set r (.arr [(AV.int .i64 0)] false)) := .set (by simp)
  have gi2 := k2.get gi (by simp; omega)
  have gn2 := k2.get gn (by simp; omega)
  have gr2 := get_set (y := .arr [(AV.int .i64 0)] false) gr
  have e3 := st_int (off := 1) (k := .i64) (z := p) gi2 (by simp)
  have k3 : Keep [id] (g.set r (.arr [(AV.int .i64 0)] false)) ((g.set r (.arr [(AV.int .i64 0)] false)).set id (.arr ([b, p', e'].set 1 (.int .i64 p)) false)) := .set (by simp)
  have gi3 := get_set (y := .arr ([b, p', e'].set 1 (.int .i64 p)) false) gi2
  have gn3 := k3.get gn2 (by simp; omega)
  have gr3 := k3.get gr2 (by simp; omega)
  have e4 := st_int (off := 2) (k := .i64) (z := e) gi3 (by simp)
  have k4 : Keep [id] ((g.set r (.arr [(AV.int .i64 0)] false)).set id (.arr ([b, p', e'].set 1 (.int .i64 p)) false)) (((g.set r (.arr [(AV.int .i64 0)] false)).set id (.arr ([b, p', e'].set 1 (.int .i64 p)) false)).set id (.arr (([b, p', e'].set 1 (.int .i64 p)).set 2 (.int .i64 e)) false)) := .set (by simp)
  refine ⟨_, ?_, (Keep.trans (hg ▸ Keep.app) (k2.mono (by simp))).trans ((k3.mono (by simp)).trans (k4.mono (by simp))), get_set gi3, k4.get gr3 (by simp; omega)⟩
  rw [cur_ask_int.d57_eq]
  simp only [taTo, if_true, bind_some', exTuple_eq]
  rw [show ([AV.agg [AV.int .i64 e], AV.bool true])[0]? = some (AV.agg [AV.int .i64 e]) from rfl, show ([AV.agg [AV.int .i64 e], AV.bool true])[1]? = some (AV.bool true) from rfl]
  simp only [bind_some', condV_true]
  rw [show AV.copy (.agg [.int .i64 e]) = .agg [.int .i64 e] from rfl, e1]
  simp only [bind_some', ld_at ga, ld_at gs, fAddr_ptr, ld_at gn, e2, ld_at gn2]
  rw [show ([AV.ptr id 0])[0]? = some (AV.ptr id 0) from rfl, show ([AV.int .i64 p])[0]? = some (AV.int .i64 p) from rfl, show ([AV.int .i64 e])[0 + 0]? = some (AV.int .i64 e) from rfl]
  simp only [bind_some', eqO, eqb_self, whenB_true, nilOk_ptr, fAddr_ptr, copy_int]
  rw [show (0 + 1) = 1 from rfl, show (0 + 2) = 2 from rfl, e3]
  simp only [bind_some', ld_at gn3]
  rw [show ([AV.int .i64 e])[0 + 0]? = some (AV.int .i64 e) from rfl]
  simp only [bind_some', eqO, eqb_self, whenB_true, nilOk_ptr, fAddr_ptr, copy_int]
  rw [e4]
  rfl
end
section
abbrev cur_ask_string.V (v : List UInt8) : AV := .str v
theorem cur_ask_string.dc_none' {call : Cl} {n : Nat} (x0 x1 x2 : AV) (h : H) : cur_ask_string.dc call n n_cur_ask_string__c1 [x0, x1, x2] h .nilIface = some (h ++ [.arr [.int .i64 0] false]) := by
  rw [cur_ask_string.d75_eq]
  have hn : (h ++ [AObj.arr [.int .i64 0] false])[h.length]? = some (.arr [.int .i64 0] false) := get_new
  have e1 := st_agg (off := 0) (n := 1) (vs := [.int .i64 0]) hn (by simp) rfl rfl
  simp only [taTo, if_true, bind_some', exTuple_eq]
  rw [show ([AV.agg [AV.int .i64 0], AV.bool false])[0]? = some (AV.agg [AV.int .i64 0]) from rfl, show ([AV.agg [AV.int .i64 0], AV.bool false])[1]? = some (AV.bool false) from rfl]
  simp only [bind_some', condV_false]
  rw [show AV.copy (.agg [.int .i64 0]) = .agg [.int .i64 0] from rfl, e1]
  simp only [bind_some']
  congr 1
  simp [set_new]
theorem cur_ask_string.dc_pan {call : Cl} {n : Nat} {h : H} {s r a id : Nat} {b : AV} {p e : Int} {p' e' w : AV} (hs : h[s]? = some (.arr [.int .i64 p] false)) (hr : h[r]? = some (.arr [w] false)) (ha : h[a]? = some (.arr [.ptr id 0] false)) (hi : h[id]? = some (.arr [b, p', e'] false))
    (h1 : s ≠ r) (h2 : s ≠ id) (h3 : a ≠ r) (h4 : a ≠ id) (h5 : r ≠ id) :
    ∃ h', cur_ask_string.dc call n n_cur_ask_string__c1 [.ptr s 0, .ptr r 0, .ptr a 0] h (.iface t_cur_broken (.agg [.int .i64 e])) = some h' ∧ Keep [id, r] h h' ∧ h'[id]? = some (.arr [b, .int .i64 p, .int .i64 e] false) ∧ h'[r]? = some (.arr [(AV.str [])] false) := by
  have hn : (h ++ [AObj.arr [.int .i64 0] false])[h.length]? = some (.arr [.int .i64 0] false) := get_new
  have e1 := st_agg (off := 0) (n := 1) (vs := [.int .i64 e]) hn (by simp) rfl rfl
  rw [show List.take 0 [AV.int .i64 0] ++ [AV.int .i64 e] ++ List.drop (0 + [AV.int .i64 e].length) [AV.int .i64 0] = [.int .i64 e] from rfl, set_new] at e1
  have lr := get_lt hr
  have li := get_lt hi
  obtain ⟨g, hg⟩ : ∃ g, g = h ++ [AObj.arr [.int .i64 e] false] := ⟨_, rfl⟩
  rw [← hg] at e1
  have gs : g[s]? = some (.arr [.int .i64 p] false) := hg ▸ get_app hs
  have gr : g[r]? = some (.arr [w] false) := hg ▸ get_app hr
  have ga : g[a]? = some (.arr [.ptr id 0] false) := hg ▸ get_app ha
  have gi : g[id]? = some (.arr [b, p', e'] false) := hg ▸ get_app hi
  have gn : g[h.length]? = some (.arr [.int .i64 e] false) := hg ▸ get_new
  have e2 : stN 1 g (.ptr r 0) (AV.str []) = some (.undef, g.set r (.arr [(AV.str [])] false)) := st_str gr (by simp)
  have k2 : Keep [r] g (g.set r (.arr [(AV.str [])] false)) := .set (by simp)
  have gi2 := k2.get gi (by simp; omega)
  have gn2 := k2.get gn (by simp; omega)
  have gr2 := get_set (y := .arr [(AV.str [])] false) gr
  have e3 := st_int (off := 1) (k := .i64) (z := p) gi2 (by simp)
  have k3 : Keep [id] (g.set r (.arr [(AV.str [])] false)) ((g.set r (.arr [(AV.str [])] false)).set id (.arr ([b, p', e'].set 1 (.int .i64 p)) false)) := .set (by simp)
  have gi3 := get_set (y := .arr ([b, p', e'].set 1 (.int .i64 p)) false) gi2
  have gn3 := k3.get gn2 (by simp; omega)
  have gr3 := k3.get gr2 (by simp; omega)
  have e4 := st_int (off := 2) (k := .i64) (z := e) gi3 (by simp)
  have k4 : Keep [id] ((g.set r (.arr [(AV.str [])] false)).set id (.arr ([b, p', e'].set 1 (.int .i64 p)) false)) (((g.set r (.arr [(AV.str [])] false)).set id (.arr ([b, p', e'].set 1 (.int .i64 p)) false)).set id (.arr (([b, p', e'].set 1 (.int .i64 p)).set 2 (.int .i64 e)) false)) := .set (by simp)
  refine ⟨_, ?_, (Keep.trans (hg ▸ Keep.app) (k2.mono (by simp))).trans ((k3.mono (by simp)).trans (k4.mono (by simp))), get_set gi3, k4.get gr3 (by simp; omega)⟩
  rw [cur_ask_string.d75_eq]
  simp only [taTo, if_true, bind_some', exTuple_eq]
  rw [show ([AV.agg [AV.int .i64 e], AV.bool true])[0]? = some (AV.agg [AV.int .i64 e]) from rfl, show ([AV.agg [AV.int .i64 e], AV.bool true])[1]? = some (AV.bool true) from rfl]
  simp only [bind_some', condV_true]
  rw [show AV.copy (.agg [.int .i64 e]) = .agg [.int .i64 e] from rfl, e1]
  simp only [bind_some', ld_at ga, ld_at gs, fAddr_ptr, ld_at gn, e2, ld_at gn2]
  rw [show ([AV.ptr id 0])[0]? = some (AV.ptr id 0) from rfl, show ([AV.int .i64 p])[0]? = some (AV.int .i64 p) from rfl, show ([AV.int .i64 e])[0 + 0]? = some (AV.int .i64 e) from rfl]
  simp only [bind_some', eqO, eqb_self, whenB_true, nilOk_ptr, fAddr_ptr, copy_int]
  rw [show (0 + 1) = 1 from rfl, show (0 + 2) = 2 from rfl, e3]
  simp only [bind_some', ld_at gn3]
  rw [show ([AV.int .i64 e])[0 + 0]? = some (AV.int .i64 e) from rfl]
  simp only [bind_some', eqO, eqb_self, whenB_true, nilOk_ptr, fAddr_ptr, copy_int]
  rw [e4]
  rfl
end
section
end
end Go.Proofs.Ytficgmeakeiacaa

open Go Go.Ve Go.Proofs
namespace Go.Proofs.Ytficgmeakeiacaa
set_option maxRecDepth 100000
set_option linter.all false
end Go.Proofs.Ytficgmeakeiacaa

open Go Go.Ve Go.Proofs
namespace Go.Proofs.Ytficgmeakeiacaa
set_option maxRecDepth 100000
set_option linter.all false
end Go.Proofs.Ytficgmeakeiacaa

open Go Go.Ve Go.Proofs
namespace Go.Proofs.Ytficgmeakeiacaa
set_option maxRecDepth 100000
set_option linter.all false
theorem lssN {k : IntKind} (n m : Nat) : bin .lss (.int k (n : Int)) (.int k (m : Int)) = some (.bool (decide (n < m))) := by rw [bin_lss]; congr 2; exact decide_eq_decide.2 (by omega)
theorem leqN {k : IntKind} (n m : Nat) : bin .leq (.int k (n : Int)) (.int k (m : Int)) = some (.bool (decide (n ≤ m))) := by rw [bin_leq]; congr 2; exact decide_eq_decide.2 (by omega)
theorem gtrN {k : IntKind} (n m : Nat) : bin .gtr (.int k (n : Int)) (.int k (m : Int)) = some (.bool (decide (m < n))) := by rw [bin_gtr]; congr 2; exact decide_eq_decide.2 (by omega)
theorem neqN {k : IntKind} (n m : Nat) : bin .neq (.int k (n : Int)) (.int k (m : Int)) = some (.bool (decide (n ≠ m))) := by rw [bin_neq]; congr 2; exact decide_eq_decide.2 (by omega)
theorem add1 (i : Nat) (hi : i < 2 ^ 60) : bin .add (.int .i64 (i : Int)) (.int .i64 1) = some (.int .i64 ((i + 1 : Nat) : Int)) := by
  rw [bin_add, wrap_i64 (by omega) (by omega)]; rfl
theorem TL_len (l : List Tx) (o : Own) : lnSl (TL l o) = some (.int .i64 l.length) := by simp [TL]
theorem TL_at {k : IntKind} {l : List Tx} {o : Own} {i : Nat} (hi : i < l.length) : ixSlice 1 (TL l o) (.int k i) = some (.rptr (txRow l[i]) 0) := ixSlice_map hi (fun _ => rfl)
theorem tx0 (s : Tx) : (txRow s)[0]? = some (.str s) := rfl
@[simp] theorem TL_pure (l : List Tx) : pureR (l.map txRow) = true := pureR_map (fun s => by simp [txRow, pureL, AV.pure])
theorem str_ne (a b : Tx) : bin .neq (.str a) (.str b) = some (.bool (decide (a ≠ b))) := by rw [bin_str, strBin_neq]
def big (n : Nat) (l : List Tx) : Bool := l.any fun s => decide (n < s.length)
def large (l : List Tx) : Bool := decide (200 < l.length) || big 400 l
theorem gtr400 (n : Nat) : bin .gtr (.int .i64 (n : Int)) (.int .i64 400) = some (.bool (decide (400 < n))) := gtrN n 400
theorem large_loop {J : Jn (AEnd × H)} {k : Nat} (hJ : ref05_Large.F D k J) (l : List Tx) (hl : l.length ≤ 2 ^ 50) (h : H) : ∀ (d i m : Nat), i + d = l.length → d < m →
    ref05_Large.l0 J m (TL l) (.int .i64 i) h = some (.ret (.bool (big 400 (l.drop i))), h)
  | 0, i, m + 1, hi, _ => by
    rw [ref05_Large.l0_eq hJ]
    simp only [TL_len, bind_some', lssN, decide_eq_false (show ¬ i < l.length by omega), condV_false]
    rw [List.drop_of_length_le (by omega)]
    rfl
  | d + 1, i, m + 1, hi, hm => by
    have hil : i < l.length := by omega
    have ih := large_loop hJ l hl h d (i + 1) m (by omega) (by omega)
    rw [ref05_Large.l0_eq hJ, List.drop_eq_getElem_cons hil, big, List.any_cons]
    simp only [TL_len, bind_some', lssN, decide_eq_true hil, condV_true, TL_at hil, ldCell_rptr, tx0, lnStr_str, gtr400, add1 i (by omega), ih]
    cases decide (400 < l[i].length) <;> rfl
theorem large_den (l : List Tx) (h : H) : D n_warrantorref05_Large [TL l] h = some (.ret (.bool (large l)), h) := by
  refine ref05_Large.den (l.length + 1) (by simp) (h' := []) ?_ rfl rfl
  rw [ref05_Large.f_eq (ref05_Large.fx _)]
  have g := gtrN (k := .i64) l.length 200
  rw [show (((200 : Nat) : Int)) = 200 from rfl] at g
  simp only [TL_len, bind_some', g]
  unfold large
  by_cases hl : 200 < l.length
  · rw [decide_eq_true hl]; rfl
  · rw [show (.int .i64 0 : AV) = .int .i64 ((0 : Nat) : Int) from rfl, large_loop (ref05_Large.fx _) l (by omega) [] l.length 0 (l.length + 1) (by omega) (by omega), decide_eq_false hl]
    rfl
theorem rsame_loop {J : Jn (AEnd × H)} {k : Nat} (hJ : ref05_Same.F D k J) (l l' : List Tx) (he : l.length = l'.length) (hl : l.length ≤ 2 ^ 50) (h : H) : ∀ (d i m : Nat), i + d = l.length → d < m →
    ref05_Same.l0 J m (TL l) (TL l') (.int .i64 i) h = some (.ret (.bool (decide (l.drop i = l'.drop i))), h)
  | 0, i, m + 1, hi, _ => by
    rw [ref05_Same.l0_eq hJ]
    simp only [TL_len, bind_some', lssN, decide_eq_false (show ¬ i < l.length by omega), condV_false]
    rw [List.drop_of_length_le (by omega), List.drop_of_length_le (by omega)]
    rfl
  | d + 1, i, m + 1, hi, hm => by
    have hil : i < l.length := by omega
    have hil' : i < l'.length := by omega
    have ih := rsame_loop hJ l l' he hl h d (i + 1) m (by omega) (by omega)
    rw [ref05_Same.l0_eq hJ, List.drop_eq_getElem_cons hil, List.drop_eq_getElem_cons hil']
    simp only [TL_len, bind_some', lssN, decide_eq_true hil, condV_true, TL_at hil, TL_at hil', ldCell_rptr, tx0, str_ne, add1 i (by omega), ih, List.cons.injEq]
    by_cases hx : l[i] = l'[i]
    · simp only [hx, ne_eq, not_true_eq_false, decide_false, condV_false, true_and]
    · simp only [hx, ne_eq, not_false_eq_true, decide_true, condV_true, false_and, decide_false]
theorem rsame_den (l l' : List Tx) (hl : l.length ≤ 2 ^ 50) (h : H) : D n_warrantorref05_Same [TL l, TL l'] h = some (.ret (.bool (decide (l = l'))), h) := by
  refine ref05_Same.den (l.length + 1) (by simp) (h' := []) ?_ rfl rfl
  rw [ref05_Same.f_eq (ref05_Same.fx _)]
  simp only [TL_len, bind_some', neqN]
  by_cases he : l.length = l'.length
  · simp only [decide_eq_false (show ¬ l.length ≠ l'.length from fun h => h he), condV_false]
    exact rsame_loop (ref05_Same.fx _) l l' he hl [] l.length 0 (l.length + 1) (by omega) (by omega)
  · simp only [decide_eq_true (show l.length ≠ l'.length from he), condV_true]
    rw [decide_eq_false (fun h => he (by rw [h]))]
end Go.Proofs.Ytficgmeakeiacaa

open Go Go.Ve Go.Proofs
namespace Go.Proofs.Ytficgmeakeiacaa
set_option maxRecDepth 100000
set_option linter.all false
theorem TL_app {l l' : List Tx} {o o' : Own} {owned : Bool} {h : H} (ho : mayApp o 1 owned = true) (hl : l.length + l'.length ≤ 2 ^ 40) : apSlice 1 16 false owned h (TL l o) (TL l' o') = some (TL (l ++ l') (.own 1)) := by
  have := ap_map (h := h) (f := txRow) (l := l) (l' := l') (o := o) (o' := o') (s := 1) (bytes := 16) (byte := false) (owned := owned) ho (by decide) (fun _ => rfl) (by omega) (by omega)
  exact this
end Go.Proofs.Ytficgmeakeiacaa

open Go Go.Ve Go.Proofs
namespace Go.Proofs.Ytficgmeakeiacaa
set_option maxRecDepth 100000
set_option linter.all false
theorem large_small {l : List Tx} (h : large l = false) : l.length ≤ 200 := by
  unfold large at h
  rw [Bool.or_eq_false_iff, decide_eq_false_iff_not] at h
  omega
theorem joins_law (a b : List Tx) (h : H) : D n_warrantorlaw05_StrsJoins [TL a, TL b] h = some (.ret (.bool true), h) := by
  have j1t : law05_StrsJoins.j1 (law05_StrsJoins.JD 1) (TL a) (TL b) (.bool true) [] = some (.ret (.bool true), []) := by
    rw [law05_StrsJoins.j1_eq (law05_StrsJoins.fx 1)]
    simp only [condV_true, lives05_den, bind_some', retOr_ret]
  have j1f : large a = false → large b = false → law05_StrsJoins.j1 (law05_StrsJoins.JD 1) (TL a) (TL b) (.bool false) [] = some (.ret (.bool true), []) := by
    intro h1 h2
    have q1 := large_small h1
    have q2 := large_small h2
    have q3 := ofL_len a
    have q4 := ofL_len b
    have q5 := ofL_len (a ++ b)
    rw [List.length_append] at q5
    have f := fun l => (ofL_facts l).2
    have e1 : ofL (ofL a ++ ofL b) = ofL (a ++ b) := ofL_congr fun z => by rw [List.mem_append, List.mem_append, f a, f b]
    have e2 : ofL (ofL b ++ ofL (a ++ b)) = ofL (a ++ b) := ofL_congr fun z => by
      rw [List.mem_append, List.mem_append, f b, f (a ++ b), List.mem_append]
      constructor
      · rintro (h | h)
        · exact Or.inr h
        · exact h
      · exact Or.inr
    have e3 := ofL_len (ofL a ++ ofL b)
    rw [e1, List.length_append] at e3
    have m0 : mkRows 1 [.str []] 0 [] = some (TL [] .cap) := rfl
    have ap1 : ∀ (l : List Tx) (h : H), l.length ≤ 2 ^ 30 → apSlice 1 16 false false h (TL [] .cap) (TL l) = some (TL l (.own 1)) := fun l h hl => by
      have := TL_app (l := []) (l' := l) (o := .cap) (o' := .no) (owned := false) (h := h) rfl (by simp; omega)
      rwa [List.nil_append] at this
    have ap2 : ∀ (l l' : List Tx) (h : H), l.length ≤ 2 ^ 30 → l'.length ≤ 2 ^ 30 → apSlice 1 16 false true h (TL l (.own 1)) (TL l') = some (TL (l ++ l') (.own 1)) := fun l l' h h1 h2 => TL_app rfl (by omega)
    have es := rsame_den (ofL (a ++ b)) (ofL (a ++ b)) (by omega) []
    rw [decide_eq_true rfl] at es
    have o1 := of_den (ofL a ++ ofL b) .no (by rw [List.length_append]; omega) ([] : H)
    have o2 := of_den (ofL b ++ ofL (a ++ b)) .no (by rw [List.length_append]; omega) ([] : H)
    rw [e1] at o1
    rw [e2] at o2
    have ad : bin .add (.int .i64 ((ofL a).length : Int)) (.int .i64 ((ofL b).length : Int)) = some (.int .i64 (((ofL a).length + (ofL b).length : Nat) : Int)) := by
      rw [bin_add, wrap_i64 (by omega) (by omega)]; rfl
    rw [law05_StrsJoins.j1_eq (law05_StrsJoins.fx 1), condV_false, law05_StrsJoins.j0_eq (law05_StrsJoins.fx 1)]
    simp only [m0, bind_some', ap1 a [] (by omega), ap2 a b [] (by omega) (by omega), canon_list, of_den (a ++ b) .no (show (a ++ b).length ≤ 2 ^ 40 by rw [List.length_append]; omega), of_den a .no (show a.length ≤ 2 ^ 40 by omega), of_den b .no (show b.length ≤ 2 ^ 40 by omega), retOr_ret, lives05_den, condV_true, ap1 (ofL a) [] (by omega), ap2 (ofL a) (ofL b) [] (by omega) (by omega), o1, es, ap1 (ofL b) [] (by omega), ap2 (ofL b) (ofL (a ++ b)) [] (by omega) (by omega), o2, TL_len, ad, leqN, decide_eq_true e3, copy_bool]
  refine law05_StrsJoins.den 1 (by simp) (h' := []) ?_ rfl rfl
  rw [law05_StrsJoins.f_eq (law05_StrsJoins.fx 1)]
  simp only [canon_list, large_den, bind_some', retOr_ret]
  cases h1 : large a with
  | true => exact j1t
  | false =>
    simp only [condV_false]
    cases h2 : large b with
    | true => exact j1t
    | false => exact j1f h1 h2
end Go.Proofs.Ytficgmeakeiacaa
