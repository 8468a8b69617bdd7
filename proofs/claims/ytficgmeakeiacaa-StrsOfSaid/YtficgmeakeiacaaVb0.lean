import Derived.Test.YtficgmeakeiacaaP5Ext
import Derived.Test.YtficgmeakeiacaaVa5
import Derived.Test.YtficgmeakeiacaaP5L
set_option linter.all false
open Go Go.Ve Go.Proofs
namespace Go.Proofs.Ytficgmeakeiacaa
set_option maxRecDepth 100000
set_option linter.all false
end Go.Proofs.Ytficgmeakeiacaa

open Go Go.Ve Go.Proofs
namespace Go.Proofs.Ytficgmeakeiacaa
set_option maxRecDepth 100000
set_option linter.all false
end Go.Proofs.Ytficgmeakeiacaa

open Go Go.Ve Go.Proofs
namespace Go.Proofs.Ytficgmeakeiacaa
set_option maxRecDepth 100000
set_option linter.all false
def PenAt (h : H) (id : Nat) (b : List UInt8) : Prop := ∃ o, mayApp o 1 true = true ∧ h[id]? = some (.arr [BL b o] false)
theorem PenAt.lt {h : H} {id : Nat} {b : List UInt8} (hr : PenAt h id b) : id < h.length := get_lt hr.choose_spec.2
end Go.Proofs.Ytficgmeakeiacaa

open Go Go.Ve Go.Proofs
namespace Go.Proofs.Ytficgmeakeiacaa
set_option maxRecDepth 100000
set_option linter.all false
theorem set_new {h : H} {x y : AObj} : (h ++ [x]).set h.length y = h ++ [y] := by simp [List.set_append]
theorem whenB_true {R : Type} {x : Option R} : whenB true x = x := rfl
section
abbrev cur_ask_int.V (v : Nat) : AV := .int .i64 v
theorem cur_ask_int.dc_none' {call : Cl} {n : Nat} (x0 x1 x2 : AV) (h : H) : cur_ask_int.dc call n n_cur_ask_int__c1 [x0, x1, x2] h .nilIface = some (h ++ [.arr [.int .i64 0] false]) := by
  rw [cur_ask_int.d57_eq]
  have hn : (h ++ [AObj.arr [.int .i64 0] false])[h.length]? = some (.arr [.int .i64 0] false) := get_new
  have e1 := st_agg (off := 0) (n := 1) (vs := [.int .i64 0]) hn (by simp) rfl rfl
  simp only [taTo, if_true, bind_some', exTuple_eq]
  rw [show ([AV.agg [AV.int .i64 0], AV.bool false])[0]? = some (AV.agg [AV.int .i64 0]) from rfl, show ([AV.agg [AV.int .i64 0], AV.bool false])[1]? = some (AV.bool false) from rfl]
  simp only [bind_some', condV_false]
  rw [show AV.copy (.agg [.int .i64 0]) = .agg [.int .i64 0] from rfl, e1]
  simp only [bind_some']
  congr 1
  simp [set_new]
theorem cur_ask_int.dc_pan {call : Cl} {n : Nat} {h : H} {s r a id : Nat} {b : AV} {p e : Int} {p' e' w : AV} (hs : h[s]? = some (.arr [.int .i64 p] false)) (hr : h[r]? = some (.arr [w] false)) (ha : h[a]? = some (.arr [.ptr id 0] false)) (hi : h[id]? = some (.arr [b, p', e'] false))
    (h1 : s ≠ r) (h2 : s ≠ id) (h3 : a ≠ r) (h4 : a ≠ id) (h5 : r ≠ id) :
    ∃ h', cur_ask_int.dc call n n_cur_ask_int__c1 [.ptr s 0, .ptr r 0, .ptr a 0] h (.iface t_cur_broken (.agg [.int .i64 e])) = some h' ∧ Keep [id, r] h h' ∧ h'[id]? = some (.arr [b, .int .i64 p, .int .i64 e] false) ∧ h'[r]? = some (.arr [(AV.int .i64 0)] false) := by
  have hn : (h ++ [AObj.arr [.int .i64 0] false])[h.length]? = some (.arr [.int .i64 0] false) := get_new
  have e1 := st_agg (off := 0) (n := 1) (vs := [.int .i64 e]) hn (by simp) rfl rfl
  rw [show List.take 0 [AV.int .i64 0] ++ [AV.int .i64 e] ++ List.drop (0 + [AV.int .i64 e].length) [AV.int .i64 0] = [.int .i64 e] from rfl, set_new] at e1
  have lr := get_lt hr
  have li := get_lt hi
  obtain ⟨g, hg⟩ : ∃ g, g = h ++ [AObj.arr [.int .i64 e] false] := ⟨_, rfl⟩
  rw [← hg] at e1
  have gs : g[s]? = some (.arr [.int .i64 p] false) := hg ▸ get_app hs
  have gr : g[r]? = some (.arr [w] false) := hg ▸ get_app hr
  have ga : g[a]? = some (.arr [.ptr id 0] false) := hg ▸ get_app ha
  have gi : g[id]? = some (.arr [b, p', e'] false) := hg ▸ get_app hi
  have gn : g[h.length]? = some (.arr [.int .i64 e] false) := hg ▸ get_new
  have e2 : stN 1 g (.ptr r 0) (AV.int .i64 0) = some (.undef, g.set r (.arr [(AV.int .i64 0)] false)) := st_int gr (by simp)
  have k2 : Keep [r] g (g.set r (.arr [(AV.int .i64 0)] false)) := .set (by simp)
  have gi2 := k2.get gi (by simp; omega)
  have gn2 := k2.get gn (by simp; omega)
  have gr2 := get_set (y := .arr [(AV.int .i64 0)] false) gr
  have e3 := st_int (off := 1) (k := .i64) (z := p) gi2 (by simp)
  have k3 : Keep [id] (g.set r (.arr [(AV.int .i64 0)] false)) ((g.set r (.arr [(AV.int .i64 0)] false)).set id (.arr ([b, p', e'].set 1 (.int .i64 p)) false)) := .set (by simp)
  have gi3 := get_set (y := .arr ([b, p', e'].set 1 (.int .i64 p)) false) gi2
  have gn3 := k3.get gn2 (by simp; omega)
  have gr3 := k3.get gr2 (by simp; omega)
  have e4 := st_int (off := 2) (k := .i64) (z := e) gi3 (by simp)
  have k4 : Keep [id] ((g.set r (.arr [(AV.int .i64 0)] false)).set id (.arr ([b, p', e'].set 1 (.int .i64 p)) false)) (((g.set r (.arr [(AV.int .i64 0)] false)).set id (.arr ([b, p', e'].set 1 (.int .i64 p)) false)).set id (.arr (([b, p', e'].set 1 (.int .i64 p)).set 2 (.int .i64 e)) false)) := .set (by simp)
  refine ⟨_, ?_, (Keep.trans (hg ▸ Keep.app) (k2.mono (by simp))).trans ((k3.mono (by simp)).trans (k4.mono (by simp))), get_set gi3, k4.get gr3 (by simp; omega)⟩
  rw [cur_ask_int.d57_eq]
  simp only [taTo, if_true, bind_some', exTuple_eq]
  rw [show ([AV.agg [AV.int .i64 e], AV.bool true])[0]? = some (AV.agg [AV.int .i64 e]) from rfl, show ([AV.agg [AV.int .i64 e], AV.bool true])[1]? = some (AV.bool true) from rfl]
  simp only [bind_some', condV_true]
  rw [show AV.copy (.agg [.int .i64 e]) = .agg [.int .i64 e] from rfl, e1]
  simp only [bind_some', ld_at ga, ld_at gs, fAddr_ptr, ld_at gn, e2, ld_at gn2]
  rw [show ([AV.ptr id 0])[0]? = some (AV.ptr id 0) from rfl, show ([AV.int .i64 p])[0]? = some (AV.int .i64 p) from rfl, show ([AV.int .i64 e])[0 + 0]? = some (AV.int .i64 e) from rfl]
  simp only [bind_some', eqO, eqb_self, whenB_true, nilOk_ptr, fAddr_ptr, copy_int]
  rw [show (0 + 1) = 1 from rfl, show (0 + 2) = 2 from rfl, e3]
  simp only [bind_some', ld_at gn3]
  rw [show ([AV.int .i64 e])[0 + 0]? = some (AV.int .i64 e) from rfl]
  simp only [bind_some', eqO, eqb_self, whenB_true, nilOk_ptr, fAddr_ptr, copy_int]
  rw [e4]
  rfl
end
section
abbrev cur_ask_string.V (v : List UInt8) : AV := .str v
theorem cur_ask_string.dc_none' {call : Cl} {n : Nat} (x0 x1 x2 : AV) (h : H) : cur_ask_string.dc call n n_cur_ask_string__c1 [x0, x1, x2] h .nilIface = some (h ++ [.arr [.int .i64 0] false]) := by
  rw [cur_ask_string.d75_eq]
  have hn : (h ++ [AObj.arr [.int .i64 0] false])[h.length]? = some (.arr [.int .i64 0] false) := get_new
  have e1 := st_agg (off := 0) (n := 1) (vs := [.int .i64 0]) hn (by simp) rfl rfl
  simp only [taTo, if_true, bind_some', exTuple_eq]
  rw [show ([AV.agg [AV.int .i64 0], AV.bool false])[0]? = some (AV.agg [AV.int .i64 0]) from rfl, show ([AV.agg [AV.int .i64 0], AV.bool false])[1]? = some (AV.bool false) from rfl]
  simp only [bind_some', condV_false]
  rw [show AV.copy (.agg [.int .i64 0]) = .agg [.int .i64 0] from rfl, e1]
  simp only [bind_some']
  congr 1
  simp [set_new]
theorem cur_ask_string.dc_pan {call : Cl} {n : Nat} {h : H} {s r a id : Nat} {b : AV} {p e : Int} {p' e' w : AV} (hs : h[s]? = some (.arr [.int .i64 p] false)) (hr : h[r]? = some (.arr [w] false)) (ha : h[a]? = some (.arr [.ptr id 0] false)) (hi : h[id]? = some (.arr [b, p', e'] false))
    (h1 : s ≠ r) (h2 : s ≠ id) (h3 : a ≠ r) (h4 : a ≠ id) (h5 : r ≠ id) :
    ∃ h', cur_ask_string.dc call n n_cur_ask_string__c1 [.ptr s 0, .ptr r 0, .ptr a 0] h (.iface t_cur_broken (.agg [.int .i64 e])) = some h' ∧ Keep [id, r] h h' ∧ h'[id]? = some (.arr [b, .int .i64 p, .int .i64 e] false) ∧ h'[r]? = some (.arr [(AV.str [])] false) := by
  have hn : (h ++ [AObj.arr [.int .i64 0] false])[h.length]? = some (.arr [.int .i64 0] false) := get_new
  have e1 := st_agg (off := 0) (n := 1) (vs := [.int .i64 e]) hn (by simp) rfl rfl
  rw [show List.take 0 [AV.int .i64 0] ++ [AV.int .i64 e] ++ List.drop (0 + [AV.int .i64 e].length) [AV.int .i64 0] = [.int .i64 e] from rfl, set_new] at e1
  have lr := get_lt hr
  have li := get_lt hi
  obtain ⟨g, hg⟩ : ∃ g, g = h ++ [AObj.arr [.int .i64 e] false] := ⟨_, rfl⟩
  rw [← hg] at e1
  have gs : g[s]? = some (.arr [.int .i64 p] false) := hg ▸ get_app hs
  have gr : g[r]? = some (.arr [w] false) := hg ▸ get_app hr
  have ga : g[a]? = some (.arr [.ptr id 0] false) := hg ▸ get_app ha
  have gi : g[id]? = some (.arr [b, p', e'] false) := hg ▸ get_app hi
  have gn : g[h.length]? = some (.arr [.int .i64 e] false) := hg ▸ get_new
  have e2 : stN 1 g (.ptr r 0) (AV.str []) = some (.undef, g.set r (.arr [(AV.str [])] false)) := st_str gr (by simp)
  have k2 : Keep [r] g (g.set r (.arr [(AV.str [])] false)) := .set (by simp)
  have gi2 := k2.get gi (by simp; omega)
  have gn2 := k2.get gn (by simp; omega)
  have gr2 := get_set (y := .arr [(AV.str [])] false) gr
  have e3 := st_int (off := 1) (k := .i64) (z := p) gi2 (by simp)
  have k3 : Keep [id] (g.set r (.arr [(AV.str [])] false)) ((g.set r (.arr [(AV.str [])] false)).set id (.arr ([b, p', e'].set 1 (.int .i64 p)) false)) := .set (by simp)
  have gi3 := get_set (y := .arr ([b, p', e'].set 1 (.int .i64 p)) false) gi2
  have gn3 := k3.get gn2 (by simp; omega)
  have gr3 := k3.get gr2 (by simp; omega)
  have e4 := st_int (off := 2) (k := .i64) (z := e) gi3 (by simp)
  have k4 : Keep [id] ((g.set r (.arr [(AV.str [])] false)).set id (.arr ([b, p', e'].set 1 (.int .i64 p)) false)) (((g.set r (.arr [(AV.str [])] false)).set id (.arr ([b, p', e'].set 1 (.int .i64 p)) false)).set id (.arr (([b, p', e'].set 1 (.int .i64 p)).set 2 (.int .i64 e)) false)) := .set (by simp)
  refine ⟨_, ?_, (Keep.trans (hg ▸ Keep.app) (k2.mono (by simp))).trans ((k3.mono (by simp)).trans (k4.mono (by simp))), get_set gi3, k4.get gr3 (by simp; omega)⟩
  rw [cur_ask_string.d75_eq]
  simp only [taTo, if_true, bind_some', exTuple_eq]
  rw [show ([AV.agg [AV.int .i64 e], AV.bool true])[0]? = some (AV.agg [AV.int .i64 e]) from rfl, show ([AV.agg [AV.int .i64 e], AV.bool true])[1]? = some (AV.bool true) from rfl]
  simp only [bind_some', condV_true]
  rw [show AV.copy (.agg [.int .i64 e]) = .agg [.int .i64 e] from rfl, e1]
  simp only [bind_some', ld_at ga, ld_at gs, fAddr_ptr, ld_at gn, e2, ld_at gn2]
  rw [show ([AV.ptr id 0])[0]? = some (AV.ptr id 0) from rfl, show ([AV.int .i64 p])[0]? = some (AV.int .i64 p) from rfl, show ([AV.int .i64 e])[0 + 0]? = some (AV.int .i64 e) from rfl]
  simp only [bind_some', eqO, eqb_self, whenB_true, nilOk_ptr, fAddr_ptr, copy_int]
  rw [show (0 + 1) = 1 from rfl, show (0 + 2) = 2 from rfl, e3]
  simp only [bind_some', ld_at gn3]
  rw [show ([AV.int .i64 e])[0 + 0]? = some (AV.int .i64 e) from rfl]
  simp only [bind_some', eqO, eqb_self, whenB_true, nilOk_ptr, fAddr_ptr, copy_int]
  rw [e4]
  rfl
end
section
end
end Go.Proofs.Ytficgmeakeiacaa

open Go Go.Ve Go.Proofs
namespace Go.Proofs.Ytficgmeakeiacaa
set_option maxRecDepth 100000
set_option linter.all false
end Go.Proofs.Ytficgmeakeiacaa

open Go Go.Ve Go.Proofs
namespace Go.Proofs.Ytficgmeakeiacaa
set_option maxRecDepth 100000
set_option linter.all false
end Go.Proofs.Ytficgmeakeiacaa

open Go Go.Ve Go.Proofs
namespace Go.Proofs.Ytficgmeakeiacaa
set_option maxRecDepth 100000
set_option linter.all false
theorem lssN {k : IntKind} (n m : Nat) : bin .lss (.int k (n : Int)) (.int k (m : Int)) = some (.bool (decide (n < m))) := by rw [bin_lss]; congr 2; exact decide_eq_decide.2 (by omega)
theorem gtrN {k : IntKind} (n m : Nat) : bin .gtr (.int k (n : Int)) (.int k (m : Int)) = some (.bool (decide (m < n))) := by rw [bin_gtr]; congr 2; exact decide_eq_decide.2 (by omega)
theorem neqN {k : IntKind} (n m : Nat) : bin .neq (.int k (n : Int)) (.int k (m : Int)) = some (.bool (decide (n ≠ m))) := by rw [bin_neq]; congr 2; exact decide_eq_decide.2 (by omega)
theorem add1 (i : Nat) (hi : i < 2 ^ 60) : bin .add (.int .i64 (i : Int)) (.int .i64 1) = some (.int .i64 ((i + 1 : Nat) : Int)) := by
  rw [bin_add, wrap_i64 (by omega) (by omega)]; rfl
theorem sub1 (i : Nat) (hi : i < 2 ^ 60) : bin .sub (.int .i64 ((i + 1 : Nat) : Int)) (.int .i64 1) = some (.int .i64 (i : Int)) := by
  rw [bin_sub, wrap_i64 (by omega) (by omega)]
  congr 2
  omega
theorem TL_len (l : List Tx) (o : Own) : lnSl (TL l o) = some (.int .i64 l.length) := by simp [TL]
theorem TL_at {k : IntKind} {l : List Tx} {o : Own} {i : Nat} (hi : i < l.length) : ixSlice 1 (TL l o) (.int k i) = some (.rptr (txRow l[i]) 0) := ixSlice_map hi (fun _ => rfl)
theorem tx0 (s : Tx) : (txRow s)[0]? = some (.str s) := rfl
@[simp] theorem TL_pure (l : List Tx) : pureR (l.map txRow) = true := pureR_map (fun s => by simp [txRow, pureL, AV.pure])
theorem str_less (a b : Tx) : bin .lss (.str a) (.str b) = some (.bool (decide (a < b))) := by
  rw [bin_str]; show some (AV.bool (Op.bytesLess a b)) = _; rw [less_eq]
theorem str_leq (a b : Tx) : bin .leq (.str a) (.str b) = some (.bool (!decide (b < a))) := by
  rw [bin_str]
  show some (AV.bool (Op.bytesLess a b || a == b)) = _
  rw [less_eq]
  congr 2
  rcases tx_tri a b with h | h | h
  · rw [decide_eq_true h, decide_eq_false (tx_asymm h)]; rfl
  · subst h; rw [decide_eq_false (tx_irrefl a)]; simp
  · rw [decide_eq_false (tx_asymm h), decide_eq_true h]
    have : a ≠ b := fun e => tx_irrefl a (e ▸ h)
    simp [this]
theorem str_eq (a b : Tx) : bin .eql (.str a) (.str b) = some (.bool (decide (a = b))) := by rw [bin_str, strBin_eql]
theorem str_ne (a b : Tx) : bin .neq (.str a) (.str b) = some (.bool (decide (a ≠ b))) := by rw [bin_str, strBin_neq]
def big (n : Nat) (l : List Tx) : Bool := l.any fun s => decide (n < s.length)
def large (l : List Tx) : Bool := decide (200 < l.length) || big 400 l
def chk (l : List Tx) : Nat := if 4096 < l.length ∨ big 256 l = true then 3 else if incr l = true then 0 else 50
theorem chk_long {l : List Tx} (h : 4096 < l.length) : chk l = 3 := by unfold chk; rw [if_pos (Or.inl h)]
theorem chk_big {l : List Tx} (h : big 256 l = true) : chk l = 3 := by unfold chk; rw [if_pos (Or.inr h)]
theorem chk_else {l : List Tx} (h1 : ¬ 4096 < l.length) (h2 : ¬ big 256 l = true) : chk l = if incr l = true then 0 else 50 := by unfold chk; rw [if_neg (fun h => Or.elim h h1 h2)]
theorem gtr400 (n : Nat) : bin .gtr (.int .i64 (n : Int)) (.int .i64 400) = some (.bool (decide (400 < n))) := gtrN n 400
theorem gtr256 (n : Nat) : bin .gtr (.int .i64 (n : Int)) (.int .i64 256) = some (.bool (decide (256 < n))) := gtrN n 256
theorem large_loop {J : Jn (AEnd × H)} {k : Nat} (hJ : ref05_Large.F D k J) (l : List Tx) (hl : l.length ≤ 2 ^ 50) (h : H) : ∀ (d i m : Nat), i + d = l.length → d < m →
    ref05_Large.l0 J m (TL l) (.int .i64 i) h = some (.ret (.bool (big 400 (l.drop i))), h)
  | 0, i, m + 1, hi, _ => by
    rw [ref05_Large.l0_eq hJ]
    simp only [TL_len, bind_some', lssN, decide_eq_false (show ¬ i < l.length by omega), condV_false]
    rw [List.drop_of_length_le (by omega)]
    rfl
  | d + 1, i, m + 1, hi, hm => by
    have hil : i < l.length := by omega
    have ih := large_loop hJ l hl h d (i + 1) m (by omega) (by omega)
    rw [ref05_Large.l0_eq hJ, List.drop_eq_getElem_cons hil, big, List.any_cons]
    simp only [TL_len, bind_some', lssN, decide_eq_true hil, condV_true, TL_at hil, ldCell_rptr, tx0, lnStr_str, gtr400, add1 i (by omega), ih]
    cases decide (400 < l[i].length) <;> rfl
theorem large_den (l : List Tx) (h : H) : D n_warrantorref05_Large [TL l] h = some (.ret (.bool (large l)), h) := by
  refine ref05_Large.den (l.length + 1) (by simp) (h' := []) ?_ rfl rfl
  rw [ref05_Large.f_eq (ref05_Large.fx _)]
  have g := gtrN (k := .i64) l.length 200
  rw [show (((200 : Nat) : Int)) = 200 from rfl] at g
  simp only [TL_len, bind_some', g]
  unfold large
  by_cases hl : 200 < l.length
  · rw [decide_eq_true hl]; rfl
  · rw [show (.int .i64 0 : AV) = .int .i64 ((0 : Nat) : Int) from rfl, large_loop (ref05_Large.fx _) l (by omega) [] l.length 0 (l.length + 1) (by omega) (by omega), decide_eq_false hl]
    rfl
theorem rsame_loop {J : Jn (AEnd × H)} {k : Nat} (hJ : ref05_Same.F D k J) (l l' : List Tx) (he : l.length = l'.length) (hl : l.length ≤ 2 ^ 50) (h : H) : ∀ (d i m : Nat), i + d = l.length → d < m →
    ref05_Same.l0 J m (TL l) (TL l') (.int .i64 i) h = some (.ret (.bool (decide (l.drop i = l'.drop i))), h)
  | 0, i, m + 1, hi, _ => by
    rw [ref05_Same.l0_eq hJ]
    simp only [TL_len, bind_some', lssN, decide_eq_false (show ¬ i < l.length by omega), condV_false]
    rw [List.drop_of_length_le (by omega), List.drop_of_length_le (by omega)]
    rfl
  | d + 1, i, m + 1, hi, hm => by
    have hil : i < l.length := by omega
    have hil' : i < l'.length := by omega
    have ih := rsame_loop hJ l l' he hl h d (i + 1) m (by omega) (by omega)
    rw [ref05_Same.l0_eq hJ, List.drop_eq_getElem_cons hil, List.drop_eq_getElem_cons hil']
    simp only [TL_len, bind_some', lssN, decide_eq_true hil, condV_true, TL_at hil, TL_at hil', ldCell_rptr, tx0, str_ne, add1 i (by omega), ih, List.cons.injEq]
    by_cases hx : l[i] = l'[i]
    · simp only [hx, ne_eq, not_true_eq_false, decide_false, condV_false, true_and]
    · simp only [hx, ne_eq, not_false_eq_true, decide_true, condV_true, false_and, decide_false]
theorem rsame_den (l l' : List Tx) (hl : l.length ≤ 2 ^ 50) (h : H) : D n_warrantorref05_Same [TL l, TL l'] h = some (.ret (.bool (decide (l = l'))), h) := by
  refine ref05_Same.den (l.length + 1) (by simp) (h' := []) ?_ rfl rfl
  rw [ref05_Same.f_eq (ref05_Same.fx _)]
  simp only [TL_len, bind_some', neqN]
  by_cases he : l.length = l'.length
  · simp only [decide_eq_false (show ¬ l.length ≠ l'.length from fun h => h he), condV_false]
    exact rsame_loop (ref05_Same.fx _) l l' he hl [] l.length 0 (l.length + 1) (by omega) (by omega)
  · simp only [decide_eq_true (show l.length ≠ l'.length from he), condV_true]
    rw [decide_eq_false (fun h => he (by rw [h]))]
theorem equal_loop {J : Jn (AEnd × H)} {k : Nat} (hJ : slices_Equal_string_string.F D k J) (l l' : List Tx) (he : l.length = l'.length) (hl : l.length ≤ 2 ^ 50) (h : H) : ∀ (d i m : Nat), i + d = l.length → d < m →
    slices_Equal_string_string.l0 J m (TL l) (TL l') (.int .i64 l.length) (.int .i64 i) h = some (.ret (.bool (decide (l.drop i = l'.drop i))), h)
  | 0, i, m + 1, hi, _ => by
    rw [slices_Equal_string_string.l0_eq hJ]
    simp only [bind_some', lssN, decide_eq_false (show ¬ i < l.length by omega), condV_false]
    rw [List.drop_of_length_le (by omega), List.drop_of_length_le (by omega)]
    rfl
  | d + 1, i, m + 1, hi, hm => by
    have hil : i < l.length := by omega
    have hil' : i < l'.length := by omega
    have ih := equal_loop hJ l l' he hl h d (i + 1) m (by omega) (by omega)
    rw [slices_Equal_string_string.l0_eq hJ, List.drop_eq_getElem_cons hil, List.drop_eq_getElem_cons hil']
    simp only [bind_some', lssN, decide_eq_true hil, condV_true, TL_at hil, TL_at hil', ldCell_rptr, tx0, str_ne, add1 i (by omega), ih, List.cons.injEq]
    by_cases hx : l[i] = l'[i]
    · simp only [hx, ne_eq, not_true_eq_false, decide_false, condV_false, true_and]
    · simp only [hx, ne_eq, not_false_eq_true, decide_true, condV_true, false_and, decide_false]
theorem equal_den (l l' : List Tx) (hl : l.length ≤ 2 ^ 50) (h : H) : D n_slices_Equal_string_string [TL l, TL l'] h = some (.ret (.bool (decide (l = l'))), h) := by
  refine slices_Equal_string_string.den (l.length + 1) (by simp) (h' := []) ?_ rfl rfl
  rw [slices_Equal_string_string.f_eq (slices_Equal_string_string.fx _)]
  simp only [TL_len, bind_some', neqN]
  by_cases he : l.length = l'.length
  · simp only [decide_eq_false (show ¬ l.length ≠ l'.length from fun h => h he), condV_false]
    exact equal_loop (slices_Equal_string_string.fx _) l l' he hl [] l.length 0 (l.length + 1) (by omega) (by omega)
  · simp only [decide_eq_true (show l.length ≠ l'.length from he), condV_true]
    rw [decide_eq_false (fun h => he (by rw [h]))]
theorem same_den (l l' : List Tx) (hl : l.length ≤ 2 ^ 50) (h : H) : D n_strs_Same [TL l, TL l'] h = some (.ret (.bool (decide (l = l'))), h) := by
  refine strs_Same.den 1 (by simp) (h' := []) ?_ rfl rfl
  rw [strs_Same.f_eq (strs_Same.fx _)]
  simp only [canon_list, equal_den l l' hl, bind_some', retOr_ret]
theorem incr_drop {l : List Tx} {i : Nat} (hi : i + 1 < l.length) : incr (l.drop i) = (decide (l[i] < l[i + 1]) && incr (l.drop (i + 1))) := by
  rw [List.drop_eq_getElem_cons (show i < l.length by omega), List.drop_eq_getElem_cons hi, incr]
theorem incr_one {l : List Tx} {i : Nat} (hi : l.length ≤ i + 1) : incr (l.drop i) = true := by
  have : (l.drop i).length ≤ 1 := by rw [List.length_drop]; omega
  match l.drop i, this with
  | [], _ => rfl
  | [x], _ => rfl
theorem chk_loop {J : Jn (AEnd × H)} {k : Nat} (hJ : strs_Check.F D k J) (l : List Tx) (hl : l.length ≤ 2 ^ 50) (h : H) : ∀ (d i m : Nat), i + 1 + d = l.length + 1 → d < m →
    strs_Check.l0 J m (TL l) (.int .i64 ((i + 1 : Nat) : Int)) h = some (.ret (.int .i64 (if incr (l.drop i) then 0 else 50)), h)
  | 0, i, m + 1, hi, _ => by
    rw [strs_Check.l0_eq hJ, incr_one (by omega)]
    simp only [TL_len, bind_some', lssN, decide_eq_false (show ¬ i + 1 < l.length by omega), condV_false]
    rfl
  | d + 1, i, m + 1, hi, hm => by
    by_cases hil : i + 1 < l.length
    · have ih := chk_loop hJ l hl h d (i + 1) m (by omega) (by omega)
      rw [strs_Check.l0_eq hJ, incr_drop hil]
      simp only [TL_len, bind_some', lssN, decide_eq_true hil, condV_true, TL_at hil, ldCell_rptr, tx0, sub1 i (by omega), TL_at (show i < l.length by omega), str_leq, add1 (i + 1) (by omega), ih]
      cases decide (l[i] < l[i + 1]) <;> rfl
    · rw [strs_Check.l0_eq hJ, incr_one (by omega)]
      simp only [TL_len, bind_some', lssN, decide_eq_false hil, condV_false]
      rfl
theorem long_loop {J : Jn (AEnd × H)} {k : Nat} (hJ : slices_IndexFunc_string_string.F D k J) (l : List Tx) (hl : l.length ≤ 2 ^ 50) (h : H) : ∀ (d i m : Nat), i + d = l.length → d < m →
    ∃ r, slices_IndexFunc_string_string.l0 J m (TL l) (.func (.func n_strs_Check_c1) [] []) (.int .i64 l.length) (.int .i64 i) h = some (.ret (.int .i64 r), h) ∧ (r ≥ 0 ↔ big 256 (l.drop i) = true)
  | 0, i, m + 1, hi, _ => by
    rw [slices_IndexFunc_string_string.l0_eq hJ, List.drop_of_length_le (by omega)]
    refine ⟨-1, ?_, by simp [big]⟩
    simp only [lssN, decide_eq_false (show ¬ i < l.length by omega), bind_some', condV_false]
  | d + 1, i, m + 1, hi, hm => by
    have hil : i < l.length := by omega
    obtain ⟨r, e, q⟩ := long_loop hJ l hl h d (i + 1) m (by omega) (by omega)
    have hc : callVal D h (.func (.func n_strs_Check_c1) [] []) [.str l[i]] = some (.ret (.bool (decide (256 < l[i].length))), h) := by
      show D n_strs_Check_c1 [.str l[i]] h = _
      refine strs_Check_c1.den 1 (by simp [pureL, AV.pure]) (h' := []) ?_ rfl rfl
      rw [strs_Check_c1.f_eq (strs_Check_c1.fx _)]
      simp only [lnStr_str, bind_some', gtr256, copy_bool]
    rw [slices_IndexFunc_string_string.l0_eq hJ, List.drop_eq_getElem_cons hil, big, List.any_cons]
    simp only [lssN, decide_eq_true hil, bind_some', condV_true, TL_at hil, ldCell_rptr, tx0, canon_str, hc, retOr_ret, add1 i (by omega), copy_int]
    cases hb : decide (256 < l[i].length) with
    | true => exact ⟨i, rfl, by simp⟩
    | false => exact ⟨r, e, by simpa [big] using q⟩
theorem chk_den (l : List Tx) (hl : l.length ≤ 2 ^ 50) (h : H) : D n_strs_Check [TL l] h = some (.ret (.int .i64 (chk l)), h) := by
  obtain ⟨r, e, q⟩ := long_loop (slices_IndexFunc_string_string.fx (l.length + 1)) l hl [] l.length 0 (l.length + 1) (by omega) (by omega)
  have d1 : ∀ h, D n_slices_IndexFunc_string_string [TL l, .func (.func n_strs_Check_c1) [] []] h = some (.ret (.int .i64 r), h) := by
    intro h
    refine slices_IndexFunc_string_string.den (l.length + 1) (by simp [pureL, AV.pure]) (h' := []) ?_ rfl rfl
    rw [slices_IndexFunc_string_string.f_eq (slices_IndexFunc_string_string.fx _)]
    simp only [TL_len, bind_some']
    exact e
  have d2 : ∀ h, D n_slices_ContainsFunc_string_string [TL l, .func (.func n_strs_Check_c1) [] []] h = some (.ret (.bool (decide (r ≥ 0))), h) := by
    intro h
    refine slices_ContainsFunc_string_string.den 1 (by simp [pureL, AV.pure]) (h' := []) ?_ rfl rfl
    rw [slices_ContainsFunc_string_string.f_eq (slices_ContainsFunc_string_string.fx _)]
    simp only [canon_list, canon_func, d1, bind_some', retOr_ret, bin_geq, copy_bool]
  have g := gtrN (k := .i64) l.length 4096
  rw [show (((4096 : Nat) : Int)) = 4096 from rfl] at g
  rw [List.drop_zero] at q
  have ej : ∀ b : Bool, strs_Check.j1 (strs_Check.JD (l.length + 2)) (TL l) (.bool b) [] = some (.ret (.int .i64 (if b then 3 else if incr l then 0 else 50)), []) := by
    intro b
    rw [strs_Check.j1_eq (strs_Check.fx _)]
    cases b with
    | true => rfl
    | false =>
      simp only [condV_false, Bool.false_eq_true, if_false]
      rw [strs_Check.j0_eq (strs_Check.fx _)]
      exact chk_loop (strs_Check.fx _) l hl [] l.length 0 (l.length + 2) (by omega) (by omega)
  refine strs_Check.den (l.length + 2) (by simp) (h' := []) ?_ rfl rfl
  rw [strs_Check.f_eq (strs_Check.fx _)]
  simp only [TL_len, bind_some', g, canon_list, canon_func, d2, retOr_ret, ej]
  by_cases h1 : 4096 < l.length
  · rw [decide_eq_true h1, chk_long h1]; rfl
  · rw [decide_eq_false h1]
    by_cases h2 : big 256 l = true
    · rw [chk_big h2]
      simp only [condV_false, decide_eq_true (q.2 h2), if_true]
      rfl
    · rw [chk_else h1 h2]
      simp only [condV_false, decide_eq_false (show ¬ r ≥ 0 from fun h => h2 (q.1 h)), Bool.false_eq_true, if_false]
      cases incr l <;> rfl
theorem rchk_l1 {J : Jn (AEnd × H)} {k : Nat} (hJ : ref05_Check.F D k J) (l : List Tx) (hl : l.length ≤ 2 ^ 50) (h : H) : ∀ (d i m : Nat), i + 1 + d = l.length + 1 → d < m →
    ref05_Check.l1 J m (TL l) (.int .i64 ((i + 1 : Nat) : Int)) h = some (.ret (.int .i64 (if incr (l.drop i) then 0 else 50)), h)
  | 0, i, m + 1, hi, _ => by
    rw [ref05_Check.l1_eq hJ, incr_one (by omega)]
    simp only [TL_len, bind_some', lssN, decide_eq_false (show ¬ i + 1 < l.length by omega), condV_false]
    rfl
  | d + 1, i, m + 1, hi, hm => by
    by_cases hil : i + 1 < l.length
    · have ih := rchk_l1 hJ l hl h d (i + 1) m (by omega) (by omega)
      rw [ref05_Check.l1_eq hJ, incr_drop hil]
      simp only [TL_len, bind_some', lssN, decide_eq_true hil, condV_true, TL_at hil, ldCell_rptr, tx0, sub1 i (by omega), TL_at (show i < l.length by omega), str_leq, add1 (i + 1) (by omega), ih]
      cases decide (l[i] < l[i + 1]) <;> rfl
    · rw [ref05_Check.l1_eq hJ, incr_one (by omega)]
      simp only [TL_len, bind_some', lssN, decide_eq_false hil, condV_false]
      rfl
theorem rchk_l0 {J : Jn (AEnd × H)} (l : List Tx) (hJ : ref05_Check.F D (l.length + 2) J) (hl : l.length ≤ 2 ^ 50) (h : H) : ∀ (d i m : Nat), i + d = l.length → d < m →
    ref05_Check.l0 J m (TL l) (.int .i64 i) h = some (.ret (.int .i64 (if big 256 (l.drop i) then 3 else if incr l then 0 else 50)), h)
  | 0, i, m + 1, hi, _ => by
    rw [ref05_Check.l0_eq hJ, List.drop_of_length_le (by omega)]
    simp only [TL_len, bind_some', lssN, decide_eq_false (show ¬ i < l.length by omega), condV_false]
    exact rchk_l1 hJ l hl h l.length 0 (l.length + 2) (by omega) (by omega)
  | d + 1, i, m + 1, hi, hm => by
    have hil : i < l.length := by omega
    have ih := rchk_l0 l hJ hl h d (i + 1) m (by omega) (by omega)
    rw [ref05_Check.l0_eq hJ, List.drop_eq_getElem_cons hil, big, List.any_cons]
    simp only [TL_len, bind_some', lssN, decide_eq_true hil, condV_true, TL_at hil, ldCell_rptr, tx0, lnStr_str, gtr256, add1 i (by omega), ih]
    cases decide (256 < l[i].length) <;> rfl
theorem rchk_den (l : List Tx) (hl : l.length ≤ 2 ^ 50) (h : H) : D n_warrantorref05_Check [TL l] h = some (.ret (.int .i64 (chk l)), h) := by
  refine ref05_Check.den (l.length + 2) (by simp) (h' := []) ?_ rfl rfl
  rw [ref05_Check.f_eq (ref05_Check.fx _)]
  have g := gtrN (k := .i64) l.length 4096
  rw [show (((4096 : Nat) : Int)) = 4096 from rfl] at g
  simp only [TL_len, bind_some', g]
  by_cases h1 : 4096 < l.length
  · rw [decide_eq_true h1, chk_long h1]; rfl
  · rw [decide_eq_false h1, show (.int .i64 0 : AV) = .int .i64 ((0 : Nat) : Int) from rfl, rchk_l0 l (ref05_Check.fx _) hl [] l.length 0 (l.length + 2) (by omega) (by omega), List.drop_zero]
    by_cases h2 : big 256 l = true
    · rw [chk_big h2, if_pos h2]; rfl
    · rw [chk_else h1 h2, if_neg h2]
      cases incr l <;> rfl
end Go.Proofs.Ytficgmeakeiacaa

open Go Go.Ve Go.Proofs
namespace Go.Proofs.Ytficgmeakeiacaa
set_option maxRecDepth 100000
set_option linter.all false
theorem not_bool (b : Bool) : unOp .not (.bool b) = some (.bool (!b)) := rfl
theorem incr_lt : ∀ {l : List Tx} (h : incr l = true) {i j : Nat} (hij : i < j) (hj : j < l.length), l[i]'(by omega) < l[j]
  | [], _, _, j, _, hj => absurd hj (Nat.not_lt_zero j)
  | x :: l, h, 0, j + 1, _, hj => by
    simp only [List.getElem_cons_zero, List.getElem_cons_succ]
    exact incr_all h _ (List.getElem_mem _)
  | x :: l, h, i + 1, j + 1, hij, hj => by
    simp only [List.getElem_cons_succ]
    exact incr_lt (incr_tail h) (by omega) (by simpa using hj)
def Cut (l : List Tx) (s : Tx) (k : Nat) : Prop := k ≤ l.length ∧ (∀ t (h : t < l.length), t < k → l[t] < s) ∧ (∀ t (h : t < l.length), k ≤ t → ¬ l[t] < s)
def rfind (s : Tx) : List Tx → Nat → Nat × Bool
  | [], _ => (0, false)
  | x :: l, i => if x = s then (i, true) else rfind s l (i + 1)
def find (l : List Tx) (s : Tx) : Nat × Bool := if chk l ≠ 0 then (0, false) else rfind s l 0
theorem chk_incr {l : List Tx} (h : chk l = 0) : incr l = true ∧ l.length ≤ 4096 ∧ big 256 l = false := by
  unfold chk at h
  split at h
  · exact absurd h (by decide)
  · rename_i h1
    split at h
    · rename_i h2
      exact ⟨h2, Nat.not_lt.mp fun h3 => h1 (Or.inl h3), Bool.eq_false_iff.mpr fun h3 => h1 (Or.inr h3)⟩
    · exact absurd h (by decide)
theorem rfind_cut {l : List Tx} {s : Tx} {k : Nat} (hi : incr l = true) (hc : Cut l s k) : ∀ (d i : Nat), i + d = l.length → rfind s (l.drop i) i = if i ≤ k ∧ l[k]? = some s then (k, true) else (0, false)
  | 0, i, hd => by
    rw [List.drop_of_length_le (by omega), rfind]
    rw [if_neg]
    rintro ⟨h1, h2⟩
    have := (List.getElem?_eq_some_iff.1 h2).1
    omega
  | d + 1, i, hd => by
    have hil : i < l.length := by omega
    rw [List.drop_eq_getElem_cons hil, rfind, rfind_cut hi hc d (i + 1) (by omega)]
    by_cases he : l[i] = s
    · rw [if_pos he]
      have hik : i = k := by
        rcases Nat.lt_trichotomy i k with h | h | h
        · have := hc.2.1 i hil h; rw [he] at this; exact absurd this (tx_irrefl s)
        · exact h
        · have h2 := hc.2.2 k (by omega) (Nat.le_refl k)
          have h3 := incr_lt hi h hil
          rw [he] at h3
          exact absurd h3 h2
      subst hik
      rw [if_pos ⟨Nat.le_refl i, by rw [List.getElem?_eq_getElem hil, he]⟩]
    · rw [if_neg he]
      by_cases hk : l[k]? = some s
      · by_cases h1 : i ≤ k
        · have : i ≠ k := by
            rintro rfl
            rw [List.getElem?_eq_getElem hil] at hk
            exact he (Option.some.inj hk)
          rw [if_pos ⟨by omega, hk⟩, if_pos ⟨h1, hk⟩]
        · rw [if_neg (fun h => h1 (by omega)), if_neg (fun h => h1 h.1)]
      · rw [if_neg (fun h => hk h.2), if_neg (fun h => hk h.2)]
theorem find_cut {l : List Tx} {s : Tx} {k : Nat} (hi : incr l = true) (hc : Cut l s k) : rfind s l 0 = if l[k]? = some s then (k, true) else (0, false) := by
  have := rfind_cut hi hc l.length 0 (by omega)
  rw [List.drop_zero] at this
  rw [this]
  by_cases hk : l[k]? = some s
  · rw [if_pos ⟨Nat.zero_le k, hk⟩, if_pos hk]
  · rw [if_neg (fun h => hk h.2), if_neg hk]
theorem isNaN_den (s : Tx) (h : H) : D n_cmp_isNaN_string [.str s] h = some (.ret (.bool false), h) := by
  refine cmp_isNaN_string.den 1 rfl (h' := []) ?_ rfl rfl
  rw [cmp_isNaN_string.f_eq (cmp_isNaN_string.fx _), str_ne]
  simp
theorem isNaN2_den (s : Tx) (h : H) : D n_slices_isNaN_string [.str s] h = some (.ret (.bool false), h) := by
  refine slices_isNaN_string.den 1 rfl (h' := []) ?_ rfl rfl
  rw [slices_isNaN_string.f_eq (slices_isNaN_string.fx _), str_ne]
  simp
theorem less_den (a b : Tx) (h : H) : D n_cmp_Less_string [.str a, .str b] h = some (.ret (.bool (decide (a < b))), h) := by
  refine cmp_Less_string.den 1 rfl (h' := []) ?_ rfl rfl
  rw [cmp_Less_string.f_eq (cmp_Less_string.fx _)]
  simp only [canon_str, isNaN_den, bind_some', retOr_ret, condV_false, str_less, copy_bool]
theorem half (i j : Nat) (hi : i < 2 ^ 60) (hj : j < 2 ^ 60) : ((bin .add (.int .i64 (i : Int)) (.int .i64 (j : Int))).bind fun v3 => (cvInt .u64 v3).bind fun v4 => (bin .shr v4 (.int .u64 1)).bind fun v5 => cvInt .i64 v5) = some (.int .i64 (((i + j) / 2 : Nat) : Int)) := by
  have e1 : bin .add (.int .i64 (i : Int)) (.int .i64 (j : Int)) = some (.int .i64 ((i + j : Nat) : Int)) := by rw [bin_add, wrap_i64 (by omega) (by omega)]; rfl
  have e2 : cvInt .u64 (.int .i64 ((i + j : Nat) : Int)) = some (.int .u64 ((i + j : Nat) : Int)) := by rw [cvInt_int, wrap_u64 (by omega) (by omega)]
  have e3 := shr_u64 (n := i + j) (k := 1) (by decide)
  rw [show (((1 : Nat) : Int)) = 1 from rfl, show (2 : Nat) ^ 1 = 2 from rfl] at e3
  have e4 : cvInt .i64 (.int .u64 (((i + j) / 2 : Nat) : Int)) = some (.int .i64 (((i + j) / 2 : Nat) : Int)) := by
    have hz : (i + j) / 2 ≤ i + j := Nat.div_le_self _ _
    generalize (i + j) / 2 = z at hz ⊢
    rw [cvInt_int, wrap_i64 (by omega) (by omega)]
  simp only [e1, bind_some', e2, e3, e4]
theorem bs_loop {J : Jn (AEnd × H)} {k : Nat} (hJ : slices_BinarySearch_string_string.F D k J) {l : List Tx} {s : Tx} (hi : incr l = true) (hl : l.length ≤ 2 ^ 40) (h : H) : ∀ (m i j : Nat), i ≤ j → j ≤ l.length → j - i < m → (∀ t (ht : t < l.length), t < i → l[t] < s) → (∀ t (ht : t < l.length), j ≤ t → ¬ l[t] < s) →
    ∃ q, Cut l s q ∧ slices_BinarySearch_string_string.l0 J m (TL l) (.str s) (.int .i64 l.length) (.int .i64 i) (.int .i64 j) h = some (.ret (.tuple [.int .i64 q, .bool (decide (l[q]? = some s))]), h)
  | m + 1, i, j, hij, hj, hm, ha, hb => by
    rw [slices_BinarySearch_string_string.l0_eq hJ]
    by_cases hlt : i < j
    · have hh := half i j (by omega) (by omega)
      obtain ⟨z, hz⟩ : ∃ z, z = (i + j) / 2 := ⟨_, rfl⟩
      rw [← hz] at hh
      have z1 : i ≤ z := by omega
      have z2 : z < j := by omega
      have zl : z < l.length := by omega
      simp only [Option.bind_eq_some_iff] at hh
      obtain ⟨v3, q3, v4, q4, v5, q5, q6⟩ := hh
      simp only [lssN, decide_eq_true hlt, bind_some', condV_true, q3, q4, q5, q6, TL_at zl, ldCell_rptr, tx0, canon_str, less_den, retOr_ret]
      by_cases hs : l[z] < s
      · obtain ⟨q, c, e⟩ := bs_loop hJ hi hl h m (z + 1) j (by omega) hj (by omega) (fun t ht h1 => by
          rcases Nat.lt_or_ge t z with h2 | h2
          · exact tx_trans (incr_lt hi h2 zl) hs
          · have : t = z := by omega
            subst this; exact hs) hb
        refine ⟨q, c, ?_⟩
        simp only [decide_eq_true hs, condV_true, add1 z (by omega)]
        exact e
      · obtain ⟨q, c, e⟩ := bs_loop hJ hi hl h m i z z1 (by omega) (by omega) ha (fun t ht h1 => by
          rcases Nat.lt_or_ge z t with h2 | h2
          · intro h3
            exact hs (tx_trans (incr_lt hi h2 ht) h3)
          · have : t = z := by omega
            subst this; exact hs)
        refine ⟨q, c, ?_⟩
        simp only [decide_eq_false hs, condV_false]
        exact e
    · have hij' : i = j := by omega
      subst hij'
      refine ⟨i, ⟨hj, ha, hb⟩, ?_⟩
      simp only [lssN, decide_eq_false hlt, bind_some', condV_false]
      by_cases hil : i < l.length
      · simp only [decide_eq_true hil, condV_true, TL_at hil, bind_some', ldCell_rptr, tx0, str_eq]
        by_cases he : l[i] = s
        · simp only [decide_eq_true he, condV_true]
          rw [decide_eq_true (show l[i]? = some s by rw [List.getElem?_eq_getElem hil, he])]
          rfl
        · simp only [decide_eq_false he, condV_false, canon_str, isNaN2_den, bind_some', retOr_ret]
          rw [decide_eq_false (show ¬ l[i]? = some s by rw [List.getElem?_eq_getElem hil]; exact fun h => he (Option.some.inj h))]
          rfl
      · simp only [decide_eq_false hil, condV_false]
        rw [decide_eq_false (show ¬ l[i]? = some s by rw [List.getElem?_eq_none (by omega)]; simp)]
        rfl
theorem find_den (l : List Tx) (s : Tx) (hl : l.length ≤ 2 ^ 40) (h : H) : D n_strs_Find [TL l, .str s] h = some (.ret (.tuple [.int .i64 (find l s).1, .bool (find l s).2]), h) := by
  refine strs_Find.den 1 (by simp [pureL, AV.pure]) (h' := []) ?_ rfl rfl
  rw [strs_Find.f_eq (strs_Find.fx _)]
  have c0 := neqN (k := .i64) (chk l) 0
  rw [show (((0 : Nat) : Int)) = 0 from rfl] at c0
  simp only [canon_list, chk_den l (by omega), bind_some', retOr_ret, c0]
  unfold find
  by_cases h0 : chk l = 0
  · obtain ⟨hi, _, _⟩ := chk_incr h0
    obtain ⟨q, c, e⟩ := bs_loop (slices_BinarySearch_string_string.fx (l.length + 1)) hi hl ([] : H) (s := s) (l.length + 1) 0 l.length (Nat.zero_le _) (Nat.le_refl _) (by omega) (fun t ht h1 => absurd h1 (Nat.not_lt_zero t)) (fun t ht h1 => absurd ht (by omega))
    have d1 : ∀ h, D n_slices_BinarySearch_string_string [TL l, .str s] h = some (.ret (.tuple [.int .i64 q, .bool (decide (l[q]? = some s))]), h) := by
      intro h
      refine slices_BinarySearch_string_string.den (l.length + 1) (by simp [pureL, AV.pure]) (h' := []) ?_ rfl rfl
      rw [slices_BinarySearch_string_string.f_eq (slices_BinarySearch_string_string.fx _)]
      simp only [TL_len, bind_some']
      exact e
    rw [if_neg (by omega), find_cut hi c]
    simp only [decide_eq_false (show ¬ chk l ≠ 0 by omega), condV_false, canon_list, canon_str, d1, bind_some', retOr_ret, exTuple_eq, List.getElem?_cons_zero, List.getElem?_cons_succ, not_bool]
    by_cases hk : l[q]? = some s
    · rw [if_pos hk, decide_eq_true hk]; rfl
    · rw [if_neg hk, decide_eq_false hk]; rfl
  · rw [if_pos h0, decide_eq_true (show chk l ≠ 0 from h0)]
    rfl
theorem rfind_loop {J : Jn (AEnd × H)} {k : Nat} (hJ : ref05_Find.F D k J) (l : List Tx) (s : Tx) (hl : l.length ≤ 2 ^ 50) (h : H) : ∀ (d i m : Nat), i + d = l.length → d < m →
    ref05_Find.l0 J m (TL l) (.str s) (.int .i64 i) h = some (.ret (.tuple [.int .i64 (rfind s (l.drop i) i).1, .bool (rfind s (l.drop i) i).2]), h)
  | 0, i, m + 1, hi, _ => by
    rw [ref05_Find.l0_eq hJ, List.drop_of_length_le (by omega)]
    simp only [TL_len, bind_some', lssN, decide_eq_false (show ¬ i < l.length by omega), condV_false]
    rfl
  | d + 1, i, m + 1, hi, hm => by
    have hil : i < l.length := by omega
    have ih := rfind_loop hJ l s hl h d (i + 1) m (by omega) (by omega)
    rw [ref05_Find.l0_eq hJ, List.drop_eq_getElem_cons hil, rfind]
    simp only [TL_len, bind_some', lssN, decide_eq_true hil, condV_true, TL_at hil, ldCell_rptr, tx0, str_eq, add1 i (by omega), ih]
    by_cases he : l[i] = s
    · rw [decide_eq_true he, if_pos he]; rfl
    · rw [decide_eq_false he, if_neg he]; rfl
theorem rfind_den (l : List Tx) (s : Tx) (hl : l.length ≤ 2 ^ 50) (h : H) : D n_warrantorref05_Find [TL l, .str s] h = some (.ret (.tuple [.int .i64 (find l s).1, .bool (find l s).2]), h) := by
  refine ref05_Find.den (l.length + 1) (by simp [pureL, AV.pure]) (h' := []) ?_ rfl rfl
  rw [ref05_Find.f_eq (ref05_Find.fx _)]
  have c0 := neqN (k := .i64) (chk l) 0
  rw [show (((0 : Nat) : Int)) = 0 from rfl] at c0
  simp only [canon_list, rchk_den l hl, bind_some', retOr_ret, c0]
  unfold find
  by_cases h0 : chk l = 0
  · rw [if_neg (by omega), decide_eq_false (show ¬ chk l ≠ 0 by omega)]
    have := rfind_loop (ref05_Find.fx (l.length + 1)) l s hl [] l.length 0 (l.length + 1) (by omega) (by omega)
    rw [List.drop_zero] at this
    exact this
  · rw [if_pos h0, decide_eq_true (show chk l ≠ 0 from h0)]
    rfl
theorem TL_app {l l' : List Tx} {o o' : Own} {owned : Bool} {h : H} (ho : mayApp o 1 owned = true) (hl : l.length + l'.length ≤ 2 ^ 40) : apSlice 1 16 false owned h (TL l o) (TL l' o') = some (TL (l ++ l') (.own 1)) := by
  have := ap_map (h := h) (f := txRow) (l := l) (l' := l') (o := o) (o' := o') (s := 1) (bytes := 16) (byte := false) (owned := owned) ho (by decide) (fun _ => rfl) (by omega) (by omega)
  exact this
theorem TL_from {l : List Tx} {o : Own} {i : Nat} (hi : i ≤ l.length) : slSlice 1 (TL l o) (some (.int .i64 i)) none none = some (TL (l.drop i)) := slSlice_from hi (fun _ => rfl)
theorem TL_cut {l : List Tx} {o : Own} {i : Nat} (hi : i ≤ l.length) : slSlice 1 (TL l o) none (some (.int .i64 i)) (some (.int .i64 i)) = some (TL (l.take i) .cap) := by
  have hall : (l.map txRow).all (fun r => r.length == 1) = true := by simp [txRow]
  unfold slSlice
  simp only [bound, natOf, Int.natCast_nonneg, if_true, Int.toNat_natCast, Option.bind_some, Nat.zero_le, true_and, List.length_map, hi, hall, and_self, Option.isSome_some, List.drop_zero]
  show some (AV.list ((l.map txRow).take i) .cap) = some (AV.list ((l.take i).map txRow) .cap)
  rw [List.map_take]
theorem insU_at {s : Tx} : ∀ {o : List Tx} {k : Nat}, (∀ t (h : t < o.length), t < k → o[t] < s) → (∀ h : k < o.length, ¬ o[k] < s) → k ≤ o.length → insU s o = if o[k]? = some s then o else o.take k ++ s :: o.drop k
  | [], k, _, _, hk => by
    have : k = 0 := by simpa using hk
    subst this
    simp [insU]
  | x :: o, 0, _, hb, _ => by
    have hx := hb (by simp)
    rw [List.getElem_cons_zero] at hx
    unfold insU
    rw [if_neg hx]
    by_cases he : x = s
    · rw [if_pos he, if_pos (by simp [he])]
    · rw [if_neg he, if_neg (by simpa using he)]
      rfl
  | x :: o, k + 1, ha, hb, hk => by
    have hx := ha 0 (by simp) (by omega)
    rw [List.getElem_cons_zero] at hx
    have ih := insU_at (s := s) (o := o) (k := k) (fun t h h1 => by have := ha (t + 1) (by simp; omega) (by omega); simpa using this) (fun h => by have := hb (by simp; omega); simpa using this) (by simpa using hk)
    unfold insU
    rw [if_pos hx, ih, List.getElem?_cons_succ]
    split
    · rfl
    · rfl
theorem rof_j0 {J : Jn (AEnd × H)} {k : Nat} (hJ : ref05_Of.F D k J) {l o : List Tx} {w : Own} {m i q : Nat} {h : H} (hi : i < l.length) (hq : q ≤ o.length) (ho : o.length ≤ 2 ^ 30) (hl : l.length ≤ 2 ^ 30) :
    ref05_Of.j0 J m (TL l) (TL o w) (.int .i64 i) (.int .i64 q) h = ref05_Of.l0 J m (TL l) (TL (o.take q ++ l[i] :: o.drop q) (.own 1)) (.int .i64 ((i + 1 : Nat) : Int)) h := by
  rw [ref05_Of.j0_eq hJ]
  have m0 : mkRows 1 [.str []] 0 [] = some (TL [] .cap) := rfl
  have m1 : mkRows 1 [.str []] 1 [(0, .str l[i])] = some (TL [l[i]] .cap) := rfl
  have a1 : apSlice 1 16 false false h (TL [] .cap) (TL (o.drop q)) = some (TL ([] ++ o.drop q) (.own 1)) := TL_app rfl (by simp; omega)
  have a2 : apSlice 1 16 false false h (TL (o.take q) .cap) (TL [l[i]] .cap) = some (TL (o.take q ++ [l[i]]) (.own 1)) := TL_app rfl (by simp; omega)
  have a3 : apSlice 1 16 false true h (TL (o.take q ++ [l[i]]) (.own 1)) (TL ([] ++ o.drop q) (.own 1)) = some (TL ((o.take q ++ [l[i]]) ++ ([] ++ o.drop q)) (.own 1)) := TL_app rfl (by simp; omega)
  simp only [m0, bind_some', TL_from hq, a1, TL_cut hq, TL_at hi, ldCell_rptr, tx0, m1, a2, a3, add1 i (by omega)]
  simp only [List.nil_append, List.append_assoc, List.singleton_append]
theorem rof_l1 {J : Jn (AEnd × H)} {k : Nat} (hJ : ref05_Of.F D k J) {l o : List Tx} {w : Own} {m0 i : Nat} {h : H} (hi : i < l.length) (ho : o.length ≤ 2 ^ 30) (hl : l.length ≤ 2 ^ 30) : ∀ (d q m : Nat), q + d = o.length → d < m → (∀ t (ht : t < o.length), t < q → o[t] < l[i]) →
    ∃ w', ref05_Of.l1 J m0 m (TL l) (TL o w) (.int .i64 i) (.int .i64 q) h = ref05_Of.l0 J m0 (TL l) (TL (insU l[i] o) w') (.int .i64 ((i + 1 : Nat) : Int)) h
  | 0, q, m + 1, hd, _, ha => by
    have hq : ¬ q < o.length := by omega
    rw [ref05_Of.l1_eq hJ, insU_at ha (fun h => absurd h hq) (by omega), if_neg (by rw [List.getElem?_eq_none (by omega)]; simp)]
    refine ⟨.own 1, ?_⟩
    simp only [TL_len, bind_some', lssN, decide_eq_false hq, condV_false]
    exact rof_j0 hJ hi (by omega) ho hl
  | d + 1, q, m + 1, hd, hm, ha => by
    have hq : q < o.length := by omega
    by_cases hs : o[q] < l[i]
    · obtain ⟨w', e⟩ := rof_l1 hJ (w := w) (m0 := m0) (h := h) hi ho hl d (q + 1) m (by omega) (by omega) (fun t ht h1 => by
        rcases Nat.lt_or_ge t q with h2 | h2
        · exact ha t ht h2
        · have : t = q := by omega
          subst this; exact hs)
      refine ⟨w', ?_⟩
      rw [ref05_Of.l1_eq hJ]
      simp only [TL_len, bind_some', lssN, decide_eq_true hq, condV_true, TL_at hq, TL_at hi, ldCell_rptr, tx0, str_less, decide_eq_true hs, add1 q (by omega)]
      exact e
    · rw [ref05_Of.l1_eq hJ, insU_at ha (fun _ => hs) (by omega)]
      by_cases he : o[q] = l[i]
      · refine ⟨w, ?_⟩
        rw [if_pos (by rw [List.getElem?_eq_getElem hq, he])]
        simp only [TL_len, bind_some', lssN, decide_eq_true hq, condV_true, TL_at hq, TL_at hi, ldCell_rptr, tx0, str_less, decide_eq_false hs, condV_false, str_eq, decide_eq_true he, add1 i (by omega)]
      · refine ⟨.own 1, ?_⟩
        rw [if_neg (by rw [List.getElem?_eq_getElem hq]; exact fun h => he (Option.some.inj h))]
        simp only [TL_len, bind_some', lssN, decide_eq_true hq, condV_true, TL_at hq, TL_at hi, ldCell_rptr, tx0, str_less, decide_eq_false hs, condV_false, str_eq, decide_eq_false he]
        exact rof_j0 hJ hi (by omega) ho hl
theorem insU_len (s : Tx) : ∀ o : List Tx, (insU s o).length ≤ o.length + 1
  | [] => by simp [insU]
  | x :: o => by
    unfold insU
    split
    · have := insU_len s o; simp; omega
    · split
      · simp
      · simp
theorem rof_loop {J : Jn (AEnd × H)} {l : List Tx} (hJ : ref05_Of.F D (2 * l.length + 2) J) (hl : l.length ≤ 2 ^ 29) (h : H) : ∀ (d i m : Nat) (o : List Tx) (w : Own), i + d = l.length → d < m → o.length ≤ i →
    ∃ w', ref05_Of.l0 J m (TL l) (TL o w) (.int .i64 i) h = some (.ret (TL ((l.drop i).foldl (fun o s => insU s o) o) w'), h)
  | 0, i, m + 1, o, w, hd, _, ho => by
    refine ⟨w, ?_⟩
    rw [ref05_Of.l0_eq hJ, List.drop_of_length_le (by omega)]
    simp only [TL_len, bind_some', lssN, decide_eq_false (show ¬ i < l.length by omega), condV_false]
    rfl
  | d + 1, i, m + 1, o, w, hd, hm, ho => by
    have hi : i < l.length := by omega
    obtain ⟨w1, e1⟩ := rof_l1 hJ (w := w) (m0 := m) (h := h) (o := o) hi (by omega) (by omega) o.length 0 (2 * l.length + 2) (by omega) (by omega) (fun t ht h1 => absurd h1 (Nat.not_lt_zero t))
    obtain ⟨w', e⟩ := rof_loop hJ hl h d (i + 1) m (insU l[i] o) w1 (by omega) (by omega) (by have := insU_len l[i] o; omega)
    refine ⟨w', ?_⟩
    rw [ref05_Of.l0_eq hJ, List.drop_eq_getElem_cons hi, List.foldl_cons, ← e, ← e1]
    simp only [TL_len, bind_some', lssN, decide_eq_true hi, condV_true]
    rfl
theorem rof_den (l : List Tx) (hl : l.length ≤ 2 ^ 29) (h : H) : ∃ w, D n_warrantorref05_Of [TL l] h = some (.ret (TL (ofR l) w), h) := by
  obtain ⟨w, e⟩ := rof_loop (ref05_Of.fx (2 * l.length + 2)) hl ([] : H) l.length 0 (2 * l.length + 2) [] .cap (by omega) (by omega) (Nat.zero_le _)
  refine ⟨w, ref05_Of.den (2 * l.length + 2) (by simp) (h' := []) ?_ (by simp [AV.pure]) rfl⟩
  rw [ref05_Of.f_eq (ref05_Of.fx _)]
  rw [List.drop_zero] at e
  exact e
end Go.Proofs.Ytficgmeakeiacaa

open Go Go.Ve Go.Proofs
namespace Go.Proofs.Ytficgmeakeiacaa
set_option maxRecDepth 100000
set_option linter.all false
theorem large_small {l : List Tx} (h : large l = false) : l.length ≤ 200 := by
  unfold large at h
  rw [Bool.or_eq_false_iff, decide_eq_false_iff_not] at h
  omega
theorem of_law (l m : List Tx) (s : Tx) (h : H) : D n_warrantorlaw05_StrsOf [TL l, .str s, TL m] h = some (.ret (.bool true), h) := by
  have j1t : law05_StrsOf.j1 (law05_StrsOf.JD 1) (TL l) (.str s) (TL m) (.bool true) [] = some (.ret (.bool true), []) := by
    rw [law05_StrsOf.j1_eq (law05_StrsOf.fx 1)]
    simp only [condV_true, lives05_den, bind_some', retOr_ret]
  have j1f : large l = false → large m = false → law05_StrsOf.j1 (law05_StrsOf.JD 1) (TL l) (.str s) (TL m) (.bool false) [] = some (.ret (.bool true), []) := by
    intro h1 h2
    have q1 := large_small h1
    have q2 := large_small h2
    have q3 := ofL_len l
    obtain ⟨w, er⟩ := rof_den l (by omega) ([] : H)
    have es := rsame_den (ofL l) (ofL l) (by omega) []
    rw [decide_eq_true rfl] at es
    rw [← ofL_ofR] at er
    rw [law05_StrsOf.j1_eq (law05_StrsOf.fx 1), condV_false, law05_StrsOf.j0_eq (law05_StrsOf.fx 1)]
    simp only [canon_list, canon_str, of_den l .no (show l.length ≤ 2 ^ 40 by omega), bind_some', retOr_ret, find_den (ofL l) s (show (ofL l).length ≤ 2 ^ 40 by omega), exTuple_eq, List.getElem?_cons_zero, List.getElem?_cons_succ, er, rfind_den (ofL l) s (show (ofL l).length ≤ 2 ^ 50 by omega), find_den m s (show m.length ≤ 2 ^ 40 by omega), rfind_den m s (show m.length ≤ 2 ^ 50 by omega), lives05_den, condV_true, es, bin_eql, decide_true, binBool_eql, beq_self_eq_true, same_den l m (show l.length ≤ 2 ^ 50 by omega), rsame_den l m (show l.length ≤ 2 ^ 50 by omega), copy_bool]
  refine law05_StrsOf.den 1 (by simp [pureL, AV.pure]) (h' := []) ?_ rfl rfl
  rw [law05_StrsOf.f_eq (law05_StrsOf.fx 1)]
  simp only [canon_list, large_den, bind_some', retOr_ret, lnStr_str, bin_gtr]
  cases h1 : large l with
  | true => exact j1t
  | false =>
    cases h2 : large m with
    | true => exact j1t
    | false =>
      simp only [condV_false]
      cases hd : decide ((s.length : Int) > 400) with
      | true => exact j1t
      | false => exact j1f h1 h2
end Go.Proofs.Ytficgmeakeiacaa
