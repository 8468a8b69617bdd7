/- What the functions of the records' layer come to: 5: asking a reader (printed by mkask.py). -/
import Derived.Test.YtdlnkfghgbddhaaGreatPJS4
set_option linter.all false

open Go Go.Ve Go.Proofs
namespace Go.Proofs.YtdlnkfghgbddhaaGreat
set_option maxRecDepth 100000
set_option linter.all false
theorem set_new {h : H} {x y : AObj} : (h ++ [x]).set h.length y = h ++ [y] := by simp [List.set_append]
theorem whenB_true {R : Type} {x : Option R} : whenB true x = x := rfl
theorem retOr_pan {R : Type} {v : AV} {kp kv : AV → R} : retOr (.pan v) kp kv = kp v := rfl
theorem eqb_self_int {k : IntKind} {z : Int} : AV.eqb (.int k z) (.int k z) = true := by simp [AV.eqb]


section
abbrev cur_ask_int.V (v : Nat) : AV := .int .i64 v
theorem cur_ask_int.dc_none' {call : Cl} {n : Nat} (x0 x1 x2 : AV) (h : H) : cur_ask_int.dc call n n_cur_ask_int__c1 [x0, x1, x2] h .nilIface = some (h ++ [.arr [.int .i64 0] false]) := by
  rw [cur_ask_int.d176_eq]
  have hn : (h ++ [AObj.arr [.int .i64 0] false])[h.length]? = some (.arr [.int .i64 0] false) := get_new
  have e1 := st_agg (off := 0) (n := 1) (vs := [.int .i64 0]) hn (by simp) rfl rfl
  simp only [taTo, if_true, bind_some', exTuple_eq]
  rw [show ([AV.agg [AV.int .i64 0], AV.bool false])[0]? = some (AV.agg [AV.int .i64 0]) from rfl, show ([AV.agg [AV.int .i64 0], AV.bool false])[1]? = some (AV.bool false) from rfl]
  simp only [bind_some', condV_false]
  rw [show AV.copy (.agg [.int .i64 0]) = .agg [.int .i64 0] from rfl, e1]
  simp only [bind_some']
  congr 1
  simp [set_new]
theorem cur_ask_int.dc_pan {call : Cl} {n : Nat} {h : H} {s r a id : Nat} {b : AV} {p e : Int} {p' e' w : AV} (hs : h[s]? = some (.arr [.int .i64 p] false)) (hr : h[r]? = some (.arr [w] false)) (ha : h[a]? = some (.arr [.ptr id 0] false)) (hi : h[id]? = some (.arr [b, p', e'] false))
    (h1 : s ≠ r) (h2 : s ≠ id) (h3 : a ≠ r) (h4 : a ≠ id) (h5 : r ≠ id) :
    ∃ h', cur_ask_int.dc call n n_cur_ask_int__c1 [.ptr s 0, .ptr r 0, .ptr a 0] h (.iface t_cur_broken (.agg [.int .i64 e])) = some h' ∧ Keep [id, r] h h' ∧ h'[id]? = some (.arr [b, .int .i64 p, .int .i64 e] false) ∧ h'[r]? = some (.arr [(AV.int .i64 0)] false) := by
  have hn : (h ++ [AObj.arr [.int .i64 0] false])[h.length]? = some (.arr [.int .i64 0] false) := get_new
  have e1 := st_agg (off := 0) (n := 1) (vs := [.int .i64 e]) hn (by simp) rfl rfl
  rw [show List.take 0 [AV.int .i64 0] ++ [AV.int .i64 e] ++ List.drop (0 + [AV.int .i64 e].length) [AV.int .i64 0] = [.int .i64 e] from rfl, set_new] at e1
  have lr := get_lt hr
  have li := get_lt hi
  obtain ⟨g, hg⟩ : ∃ g, g = h ++ [AObj.arr [.int .i64 e] false] := ⟨_, rfl⟩
  rw [← hg] at e1
  have gs : g[s]? = some (.arr [.int .i64 p] false) := hg ▸ get_app hs
  have gr : g[r]? = some (.arr [w] false) := hg ▸ get_app hr
  have ga : g[a]? = some (.arr [.ptr id 0] false) := hg ▸ get_app ha
  have gi : g[id]? = some (.arr [b, p', e'] false) := hg ▸ get_app hi
  have gn : g[h.length]? = some (.arr [.int .i64 e] false) := hg ▸ get_new
  have e2 : stN 1 g (.ptr r 0) (AV.int .i64 0) = some (.undef, g.set r (.arr [(AV.int .i64 0)] false)) := st_int gr (by simp)
  have k2 : Keep [r] g (g.set r (.arr [(AV.int .i64 0)] false)) := .set (by simp)
  have gi2 := k2.get gi (by simp; omega)
  have gn2 := k2.get gn (by simp; omega)
  have gr2 := get_set (y := .arr [(AV.int .i64 0)] false) gr
  have e3 := st_int (off := 1) (k := .i64) (z := p) gi2 (by simp)
  have k3 : Keep [id] (g.set r (.arr [(AV.int .i64 0)] false)) ((g.set r (.arr [(AV.int .i64 0)] false)).set id (.arr ([b, p', e'].set 1 (.int .i64 p)) false)) := .set (by simp)
  have gi3 := get_set (y := .arr ([b, p', e'].set 1 (.int .i64 p)) false) gi2
  have gn3 := k3.get gn2 (by simp; omega)
  have gr3 := k3.get gr2 (by simp; omega)
  have e4 := st_int (off := 2) (k := .i64) (z := e) gi3 (by simp)
  have k4 : Keep [id] ((g.set r (.arr [(AV.int .i64 0)] false)).set id (.arr ([b, p', e'].set 1 (.int .i64 p)) false)) (((g.set r (.arr [(AV.int .i64 0)] false)).set id (.arr ([b, p', e'].set 1 (.int .i64 p)) false)).set id (.arr (([b, p', e'].set 1 (.int .i64 p)).set 2 (.int .i64 e)) false)) := .set (by simp)
  refine ⟨_, ?_, (Keep.trans (hg ▸ Keep.app) (k2.mono (by simp))).trans ((k3.mono (by simp)).trans (k4.mono (by simp))), get_set gi3, k4.get gr3 (by simp; omega)⟩
  rw [cur_ask_int.d176_eq]
  simp only [taTo, if_true, bind_some', exTuple_eq]
  rw [show ([AV.agg [AV.int .i64 e], AV.bool true])[0]? = some (AV.agg [AV.int .i64 e]) from rfl, show ([AV.agg [AV.int .i64 e], AV.bool true])[1]? = some (AV.bool true) from rfl]
  simp only [bind_some', condV_true]
  rw [show AV.copy (.agg [.int .i64 e]) = .agg [.int .i64 e] from rfl, e1]
  simp only [bind_some', ld_at ga, ld_at gs, fAddr_ptr, ld_at gn, e2, ld_at gn2]
  rw [show ([AV.ptr id 0])[0]? = some (AV.ptr id 0) from rfl, show ([AV.int .i64 p])[0]? = some (AV.int .i64 p) from rfl, show ([AV.int .i64 e])[0 + 0]? = some (AV.int .i64 e) from rfl]
  simp only [bind_some', eqO, eqb_self, whenB_true, nilOk_ptr, fAddr_ptr, copy_int]
  rw [show (0 + 1) = 1 from rfl, show (0 + 2) = 2 from rfl, e3]
  simp only [bind_some', ld_at gn3]
  rw [show ([AV.int .i64 e])[0 + 0]? = some (AV.int .i64 e) from rfl]
  simp only [bind_some', eqO, eqb_self, whenB_true, nilOk_ptr, fAddr_ptr, copy_int]
  rw [e4]
  rfl
/-- Where something is wrong nothing is read. -/
theorem cur_ask_int_bad {h : H} {id : Nat} {r : Rd} (fv : AV) (hr : RdAt h id r) (he : r.e ≠ 0) : ∃ h', D n_cur_ask_int [.ptr id 0, fv] h = some (.ret (AV.int .i64 0), h') ∧ Keep [] h h' ∧ RdAt h' id r := by
  obtain ⟨o, hr⟩ := hr
  obtain ⟨h1, hh1⟩ : ∃ g, g = h ++ [AObj.arr [.ptr id 0] false] := ⟨_, rfl⟩
  obtain ⟨h2, hh2⟩ : ∃ g, g = h1 ++ [AObj.arr [(AV.int .i64 0)] false] := ⟨_, rfl⟩
  have l1 : h1.length = h.length + 1 := by rw [hh1]; simp
  have l2 : h2.length = h1.length + 1 := by rw [hh2]; simp
  have k1 : Keep [] h h1 := hh1 ▸ Keep.app
  have k2 : Keep [] h1 h2 := hh2 ▸ Keep.app
  have a1 : h2[h.length]? = some (.arr [.ptr id 0] false) := k2.get (hh1 ▸ get_new) (by simp)
  have z1 : h2[h1.length]? = some (.arr [(AV.int .i64 0)] false) := hh2 ▸ get_new
  have r1 : h2[id]? = some (.arr (r.cells o) false) := (k1.trans k2).get hr (by simp)
  have e1 : stN 1 h2 (.ptr h1.length 0) (AV.int .i64 0) = _ := st_int z1 (by simp)
  have k4 : Keep [] h (h2.set h1.length (.arr ([(AV.int .i64 0)].set 0 (AV.int .i64 0)) false)) := Keep.drop (id := h1.length) ((k1.trans k2).nil.trans (Keep.set (by simp))) (by omega)
  refine ⟨_, cur_ask_int.den 1 ?_ rfl, k4, o, k4.get hr (by simp)⟩
  rw [cur_ask_int.f_eq (cur_ask_int.fx 1)]
  rw [copy_ptr, bx_one (v := .ptr id 0) rfl]
  simp only [bind_some', cells_ptr]
  rw [← hh1, ← hh2]
  rw [ld_at a1, show ([AV.ptr id 0])[0]? = some (AV.ptr id 0) from rfl]
  simp only [bind_some', ptr_rd, eqv_ff, condV_false, nilOk_ptr, fAddr_ptr]
  rw [ld_at r1, show (r.cells o)[0 + 2]? = some (AV.int .i64 r.e) from rfl]
  simp only [bind_some', bin_neq, decide_eq_true (show ((r.e : Int) ≠ 0) by omega)]
  rw [cur_ask_int.j1_eq (cur_ask_int.fx 1)]
  simp only [condV_true]
  rw [ld_at z1, show ([(AV.int .i64 0)] : List AV)[0]? = some (AV.int .i64 0) from rfl]
  simp only [bind_some', copy_int]
  rw [e1]
  simp only [bind_some']
  rw [ld_at (get_set z1)]
  rfl
/-- What is read is told. -/
theorem cur_ask_int_ok {h : H} {id : Nat} {r r' : Rd} (fv : AV) (v : Nat) (hr : RdAt h id r) (he : r.e = 0)
    (hf : ∀ h1 o, Keep [] h h1 → h1[id]? = some (.arr (r.cells o) false) → ∃ h2, callVal D h1 fv [.ptr id 0] = some (.ret (cur_ask_int.V v), h2) ∧ Keep [id] h1 h2 ∧ RdAt h2 id r') :
    ∃ h', D n_cur_ask_int [.ptr id 0, fv] h = some (.ret (cur_ask_int.V v), h') ∧ Keep [id] h h' ∧ RdAt h' id r' := by
  obtain ⟨o, hr⟩ := hr
  have li := get_lt hr
  obtain ⟨h1, hh1⟩ : ∃ g, g = h ++ [AObj.arr [.ptr id 0] false] := ⟨_, rfl⟩
  obtain ⟨h2, hh2⟩ : ∃ g, g = h1 ++ [AObj.arr [(AV.int .i64 0)] false] := ⟨_, rfl⟩
  have l1 : h1.length = h.length + 1 := by rw [hh1]; simp
  have l2 : h2.length = h1.length + 1 := by rw [hh2]; simp
  have k1 : Keep [] h h1 := hh1 ▸ Keep.app
  have k2 : Keep [] h1 h2 := hh2 ▸ Keep.app
  obtain ⟨h3, hh3⟩ : ∃ g, g = h2 ++ [AObj.arr [.int .i64 r.p] false] := ⟨_, rfl⟩
  have k23 : Keep [] h2 h3 := hh3 ▸ Keep.app
  have k3 : Keep [] h h3 := (k1.trans k2).trans k23
  obtain ⟨h4, e4, k4, r4⟩ := hf h3 o k3 (k3.get hr (by simp))
  have a1 : h2[h.length]? = some (.arr [.ptr id 0] false) := k2.get (hh1 ▸ get_new) (by simp)
  have z1 : h2[h1.length]? = some (.arr [(AV.int .i64 0)] false) := hh2 ▸ get_new
  have r1 : h2[id]? = some (.arr (r.cells o) false) := (k1.trans k2).get hr (by simp)
  have z4 := k4.get (k23.get z1 (by simp)) (by simp; omega)
  have e5 : stN 1 h4 (.ptr h1.length 0) (cur_ask_int.V v) = _ := st_int z4 (by simp)
  obtain ⟨h5, hh5⟩ : ∃ g, g = h4.set h1.length (.arr [cur_ask_int.V v] false) := ⟨_, rfl⟩
  have k5 : Keep [h1.length] h4 h5 := hh5 ▸ .set (by simp)
  have z5 : h5[h1.length]? = some (.arr [cur_ask_int.V v] false) := hh5 ▸ get_set z4
  have r5 := k5.rd r4 (by simp; omega)
  have kk : Keep [id] h h5 := ((k3.nil.trans (k4.mono (ids' := [h1.length, id]) (by simp))).trans (k5.mono (by simp))).drop (by omega)
  refine ⟨h5 ++ [.arr [.int .i64 0] false], cur_ask_int.den 1 ?_ rfl, kk.trans .app, (Keep.app (ids := [])).rd r5 (by simp)⟩
  rw [cur_ask_int.f_eq (cur_ask_int.fx 1)]
  rw [copy_ptr, bx_one (v := .ptr id 0) rfl]
  simp only [bind_some', cells_ptr]
  rw [← hh1, ← hh2]
  rw [ld_at a1, show ([AV.ptr id 0])[0]? = some (AV.ptr id 0) from rfl]
  simp only [bind_some', ptr_rd, eqv_ff, condV_false, nilOk_ptr, fAddr_ptr]
  rw [ld_at r1, show (r.cells o)[0 + 2]? = some (AV.int .i64 r.e) from rfl]
  simp only [bind_some', bin_neq, decide_eq_false (show ¬ ((r.e : Int) ≠ 0) by omega)]
  rw [cur_ask_int.j1_eq (cur_ask_int.fx 1)]
  simp only [condV_false]
  rw [cur_ask_int.j0_eq (cur_ask_int.fx 1)]
  rw [ld_at a1, show ([AV.ptr id 0])[0]? = some (AV.ptr id 0) from rfl]
  simp only [bind_some', nilOk_ptr, fAddr_ptr]
  rw [ld_at r1, show (r.cells o)[0 + 1]? = some (AV.int .i64 r.p) from rfl]
  simp only [bind_some', copy_int]
  have s1 := st_int (off := 0) (k := .i64) (z := r.p) (get_new (h := h2) (x := .arr [.int .i64 0] false)) (by simp)
  rw [set_new] at s1
  rw [s1]
  simp only [bind_some']
  have a2 : h3[h.length]? = some (.arr [.ptr id 0] false) := k23.get a1 (by simp)
  rw [show (h2 ++ [AObj.arr ([AV.int .i64 0].set 0 (AV.int .i64 r.p)) false]) = h3 from hh3.symm, ld_at a2, show ([AV.ptr id 0])[0]? = some (AV.ptr id 0) from rfl]
  simp only [bind_some', canon_ptr]
  rw [e4]
  simp only [bind_some', retOr_ret]
  rw [e5]
  simp only [bind_some']
  rw [cur_ask_int.dc_none']
  simp only [bind_some']
  rw [show (h4.set h1.length (AObj.arr ([(AV.int .i64 0)].set 0 (cur_ask_int.V v)) false)) = h5 from hh5.symm, ld_at (get_app z5)]
  rfl
/-- What can not be read is noted. -/
theorem cur_ask_int_pan {h : H} {id : Nat} {r : Rd} (fv : AV) (e : Nat) (hr : RdAt h id r) (he : r.e = 0)
    (hf : ∀ h1 o, Keep [] h h1 → h1[id]? = some (.arr (r.cells o) false) → ∃ h2 p', callVal D h1 fv [.ptr id 0] = some (.pan (.iface t_cur_broken (.agg [.int .i64 e])), h2) ∧ Keep [id] h1 h2 ∧ RdAt h2 id { r with p := p' }) :
    ∃ h', D n_cur_ask_int [.ptr id 0, fv] h = some (.ret (AV.int .i64 0), h') ∧ Keep [id] h h' ∧ RdAt h' id { r with e := e } := by
  obtain ⟨o, hr⟩ := hr
  have li := get_lt hr
  obtain ⟨h1, hh1⟩ : ∃ g, g = h ++ [AObj.arr [.ptr id 0] false] := ⟨_, rfl⟩
  obtain ⟨h2, hh2⟩ : ∃ g, g = h1 ++ [AObj.arr [(AV.int .i64 0)] false] := ⟨_, rfl⟩
  have l1 : h1.length = h.length + 1 := by rw [hh1]; simp
  have l2 : h2.length = h1.length + 1 := by rw [hh2]; simp
  have k1 : Keep [] h h1 := hh1 ▸ Keep.app
  have k2 : Keep [] h1 h2 := hh2 ▸ Keep.app
  obtain ⟨h3, hh3⟩ : ∃ g, g = h2 ++ [AObj.arr [.int .i64 r.p] false] := ⟨_, rfl⟩
  have k23 : Keep [] h2 h3 := hh3 ▸ Keep.app
  have k3 : Keep [] h h3 := (k1.trans k2).trans k23
  obtain ⟨h4, p', e4, k4, o4, r4⟩ := hf h3 o k3 (k3.get hr (by simp))
  have a1 : h2[h.length]? = some (.arr [.ptr id 0] false) := k2.get (hh1 ▸ get_new) (by simp)
  have z1 : h2[h1.length]? = some (.arr [(AV.int .i64 0)] false) := hh2 ▸ get_new
  have r1 : h2[id]? = some (.arr (r.cells o) false) := (k1.trans k2).get hr (by simp)
  have z4 := k4.get (k23.get z1 (by simp)) (by simp; omega)
  have a4 := k4.get (k23.get a1 (by simp)) (by simp; omega)
  have s4 := k4.get (j := h2.length) (show h3[h2.length]? = some (.arr [.int .i64 r.p] false) from hh3 ▸ get_new) (by simp; omega)
  obtain ⟨h5, e5, k5, r5, z5⟩ := cur_ask_int.dc_pan (call := D) (n := 1) (e := e) s4 z4 a4 r4 (by omega) (by omega) (by omega) (by omega) (by omega)
  have kk : Keep [id] h h5 := (Keep.trans (k3.nil.trans (k4.mono (ids' := [h1.length, id]) (by simp))) (k5.mono (by simp))).drop (by omega)
  refine ⟨h5, cur_ask_int.den 1 ?_ rfl, kk, o4, r5⟩
  rw [cur_ask_int.f_eq (cur_ask_int.fx 1)]
  rw [copy_ptr, bx_one (v := .ptr id 0) rfl]
  simp only [bind_some', cells_ptr]
  rw [← hh1, ← hh2]
  rw [ld_at a1, show ([AV.ptr id 0])[0]? = some (AV.ptr id 0) from rfl]
  simp only [bind_some', ptr_rd, eqv_ff, condV_false, nilOk_ptr, fAddr_ptr]
  rw [ld_at r1, show (r.cells o)[0 + 2]? = some (AV.int .i64 r.e) from rfl]
  simp only [bind_some', bin_neq, decide_eq_false (show ¬ ((r.e : Int) ≠ 0) by omega)]
  rw [cur_ask_int.j1_eq (cur_ask_int.fx 1)]
  simp only [condV_false]
  rw [cur_ask_int.j0_eq (cur_ask_int.fx 1)]
  rw [ld_at a1, show ([AV.ptr id 0])[0]? = some (AV.ptr id 0) from rfl]
  simp only [bind_some', nilOk_ptr, fAddr_ptr]
  rw [ld_at r1, show (r.cells o)[0 + 1]? = some (AV.int .i64 r.p) from rfl]
  simp only [bind_some', copy_int]
  have s1 := st_int (off := 0) (k := .i64) (z := r.p) (get_new (h := h2) (x := .arr [.int .i64 0] false)) (by simp)
  rw [set_new] at s1
  rw [s1]
  simp only [bind_some']
  have a2 : h3[h.length]? = some (.arr [.ptr id 0] false) := k23.get a1 (by simp)
  rw [show (h2 ++ [AObj.arr ([AV.int .i64 0].set 0 (AV.int .i64 r.p)) false]) = h3 from hh3.symm, ld_at a2, show ([AV.ptr id 0])[0]? = some (AV.ptr id 0) from rfl]
  simp only [bind_some', canon_ptr]
  rw [e4]
  simp only [bind_some', retOr_pan, copy_ptr]
  rw [e5]
  simp only [bind_some']
  rw [ld_at z5]
  rfl
end


section
abbrev cur_ask_string.V (v : List UInt8) : AV := .str v
theorem cur_ask_string.dc_none' {call : Cl} {n : Nat} (x0 x1 x2 : AV) (h : H) : cur_ask_string.dc call n n_cur_ask_string__c1 [x0, x1, x2] h .nilIface = some (h ++ [.arr [.int .i64 0] false]) := by
  rw [cur_ask_string.d145_eq]
  have hn : (h ++ [AObj.arr [.int .i64 0] false])[h.length]? = some (.arr [.int .i64 0] false) := get_new
  have e1 := st_agg (off := 0) (n := 1) (vs := [.int .i64 0]) hn (by simp) rfl rfl
  simp only [taTo, if_true, bind_some', exTuple_eq]
  rw [show ([AV.agg [AV.int .i64 0], AV.bool false])[0]? = some (AV.agg [AV.int .i64 0]) from rfl, show ([AV.agg [AV.int .i64 0], AV.bool false])[1]? = some (AV.bool false) from rfl]
  simp only [bind_some', condV_false]
  rw [show AV.copy (.agg [.int .i64 0]) = .agg [.int .i64 0] from rfl, e1]
  simp only [bind_some']
  congr 1
  simp [set_new]
theorem cur_ask_string.dc_pan {call : Cl} {n : Nat} {h : H} {s r a id : Nat} {b : AV} {p e : Int} {p' e' w : AV} (hs : h[s]? = some (.arr [.int .i64 p] false)) (hr : h[r]? = some (.arr [w] false)) (ha : h[a]? = some (.arr [.ptr id 0] false)) (hi : h[id]? = some (.arr [b, p', e'] false))
    (h1 : s ≠ r) (h2 : s ≠ id) (h3 : a ≠ r) (h4 : a ≠ id) (h5 : r ≠ id) :
    ∃ h', cur_ask_string.dc call n n_cur_ask_string__c1 [.ptr s 0, .ptr r 0, .ptr a 0] h (.iface t_cur_broken (.agg [.int .i64 e])) = some h' ∧ Keep [id, r] h h' ∧ h'[id]? = some (.arr [b, .int .i64 p, .int .i64 e] false) ∧ h'[r]? = some (.arr [(AV.str [])] false) := by
  have hn : (h ++ [AObj.arr [.int .i64 0] false])[h.length]? = some (.arr [.int .i64 0] false) := get_new
  have e1 := st_agg (off := 0) (n := 1) (vs := [.int .i64 e]) hn (by simp) rfl rfl
  rw [show List.take 0 [AV.int .i64 0] ++ [AV.int .i64 e] ++ List.drop (0 + [AV.int .i64 e].length) [AV.int .i64 0] = [.int .i64 e] from rfl, set_new] at e1
  have lr := get_lt hr
  have li := get_lt hi
  obtain ⟨g, hg⟩ : ∃ g, g = h ++ [AObj.arr [.int .i64 e] false] := ⟨_, rfl⟩
  rw [← hg] at e1
  have gs : g[s]? = some (.arr [.int .i64 p] false) := hg ▸ get_app hs
  have gr : g[r]? = some (.arr [w] false) := hg ▸ get_app hr
  have ga : g[a]? = some (.arr [.ptr id 0] false) := hg ▸ get_app ha
  have gi : g[id]? = some (.arr [b, p', e'] false) := hg ▸ get_app hi
  have gn : g[h.length]? = some (.arr [.int .i64 e] false) := hg ▸ get_new
  have e2 : stN 1 g (.ptr r 0) (AV.str []) = some (.undef, g.set r (.arr [(AV.str [])] false)) := st_str gr (by simp)
  have k2 : Keep [r] g (g.set r (.arr [(AV.str [])] false)) := .set (by simp)
  have gi2 := k2.get gi (by simp; omega)
  have gn2 := k2.get gn (by simp; omega)
  have gr2 := get_set (y := .arr [(AV.str [])] false) gr
  have e3 := st_int (off := 1) (k := .i64) (z := p) gi2 (by simp)
  have k3 : Keep [id] (g.set r (.arr [(AV.str [])] false)) ((g.set r (.arr [(AV.str [])] false)).set id (.arr ([b, p', e'].set 1 (.int .i64 p)) false)) := .set (by simp)
  have gi3 := get_set (y := .arr ([b, p', e'].set 1 (.int .i64 p)) false) gi2
  have gn3 := k3.get gn2 (by simp; omega)
  have gr3 := k3.get gr2 (by simp; omega)
  have e4 := st_int (off := 2) (k := .i64) (z := e) gi3 (by simp)
  have k4 : Keep [id] ((g.set r (.arr [(AV.str [])] false)).set id (.arr ([b, p', e'].set 1 (.int .i64 p)) false)) (((g.set r (.arr [(AV.str [])] false)).set id (.arr ([b, p', e'].set 1 (.int .i64 p)) false)).set id (.arr (([b, p', e'].set 1 (.int .i64 p)).set 2 (.int .i64 e)) false)) := .set (by simp)
  refine ⟨_, ?_, (Keep.trans (hg ▸ Keep.app) (k2.mono (by simp))).trans ((k3.mono (by simp)).trans (k4.mono (by simp))), get_set gi3, k4.get gr3 (by simp; omega)⟩
  rw [cur_ask_string.d145_eq]
  simp only [taTo, if_true, bind_some', exTuple_eq]
  rw [show ([AV.agg [AV.int .i64 e], AV.bool true])[0]? = some (AV.agg [AV.int .i64 e]) from rfl, show ([AV.agg [AV.int .i64 e], AV.bool true])[1]? = some (AV.bool true) from rfl]
  simp only [bind_some', condV_true]
  rw [show AV.copy (.agg [.int .i64 e]) = .agg [.int .i64 e] from rfl, e1]
  simp only [bind_some', ld_at ga, ld_at gs, fAddr_ptr, ld_at gn, e2, ld_at gn2]
  rw [show ([AV.ptr id 0])[0]? = some (AV.ptr id 0) from rfl, show ([AV.int .i64 p])[0]? = some (AV.int .i64 p) from rfl, show ([AV.int .i64 e])[0 + 0]? = some (AV.int .i64 e) from rfl]
  simp only [bind_some', eqO, eqb_self, whenB_true, nilOk_ptr, fAddr_ptr, copy_int]
  rw [show (0 + 1) = 1 from rfl, show (0 + 2) = 2 from rfl, e3]
  simp only [bind_some', ld_at gn3]
  rw [show ([AV.int .i64 e])[0 + 0]? = some (AV.int .i64 e) from rfl]
  simp only [bind_some', eqO, eqb_self, whenB_true, nilOk_ptr, fAddr_ptr, copy_int]
  rw [e4]
  rfl
/-- Where something is wrong nothing is read. -/
theorem cur_ask_string_bad {h : H} {id : Nat} {r : Rd} (fv : AV) (hr : RdAt h id r) (he : r.e ≠ 0) : ∃ h', D n_cur_ask_string [.ptr id 0, fv] h = some (.ret (AV.str []), h') ∧ Keep [] h h' ∧ RdAt h' id r := by
  obtain ⟨o, hr⟩ := hr
  obtain ⟨h1, hh1⟩ : ∃ g, g = h ++ [AObj.arr [.ptr id 0] false] := ⟨_, rfl⟩
  obtain ⟨h2, hh2⟩ : ∃ g, g = h1 ++ [AObj.arr [(AV.str [])] false] := ⟨_, rfl⟩
  have l1 : h1.length = h.length + 1 := by rw [hh1]; simp
  have l2 : h2.length = h1.length + 1 := by rw [hh2]; simp
  have k1 : Keep [] h h1 := hh1 ▸ Keep.app
  have k2 : Keep [] h1 h2 := hh2 ▸ Keep.app
  have a1 : h2[h.length]? = some (.arr [.ptr id 0] false) := k2.get (hh1 ▸ get_new) (by simp)
  have z1 : h2[h1.length]? = some (.arr [(AV.str [])] false) := hh2 ▸ get_new
  have r1 : h2[id]? = some (.arr (r.cells o) false) := (k1.trans k2).get hr (by simp)
  have e1 : stN 1 h2 (.ptr h1.length 0) (AV.str []) = _ := st_str z1 (by simp)
  have k4 : Keep [] h (h2.set h1.length (.arr ([(AV.str [])].set 0 (AV.str [])) false)) := Keep.drop (id := h1.length) ((k1.trans k2).nil.trans (Keep.set (by simp))) (by omega)
  refine ⟨_, cur_ask_string.den 1 ?_ rfl, k4, o, k4.get hr (by simp)⟩
  rw [cur_ask_string.f_eq (cur_ask_string.fx 1)]
  rw [copy_ptr, bx_one (v := .ptr id 0) rfl]
  simp only [bind_some', cells_ptr]
  rw [← hh1, ← hh2]
  rw [ld_at a1, show ([AV.ptr id 0])[0]? = some (AV.ptr id 0) from rfl]
  simp only [bind_some', ptr_rd, eqv_ff, condV_false, nilOk_ptr, fAddr_ptr]
  rw [ld_at r1, show (r.cells o)[0 + 2]? = some (AV.int .i64 r.e) from rfl]
  simp only [bind_some', bin_neq, decide_eq_true (show ((r.e : Int) ≠ 0) by omega)]
  rw [cur_ask_string.j1_eq (cur_ask_string.fx 1)]
  simp only [condV_true]
  rw [ld_at z1, show ([(AV.str [])] : List AV)[0]? = some (AV.str []) from rfl]
  simp only [bind_some', copy_str]
  rw [e1]
  simp only [bind_some']
  rw [ld_at (get_set z1)]
  rfl
/-- What is read is told. -/
theorem cur_ask_string_ok {h : H} {id : Nat} {r r' : Rd} (fv : AV) (v : List UInt8) (hr : RdAt h id r) (he : r.e = 0)
    (hf : ∀ h1 o, Keep [] h h1 → h1[id]? = some (.arr (r.cells o) false) → ∃ h2, callVal D h1 fv [.ptr id 0] = some (.ret (cur_ask_string.V v), h2) ∧ Keep [id] h1 h2 ∧ RdAt h2 id r') :
    ∃ h', D n_cur_ask_string [.ptr id 0, fv] h = some (.ret (cur_ask_string.V v), h') ∧ Keep [id] h h' ∧ RdAt h' id r' := by
  obtain ⟨o, hr⟩ := hr
  have li := get_lt hr
  obtain ⟨h1, hh1⟩ : ∃ g, g = h ++ [AObj.arr [.ptr id 0] false] := ⟨_, rfl⟩
  obtain ⟨h2, hh2⟩ : ∃ g, g = h1 ++ [AObj.arr [(AV.str [])] false] := ⟨_, rfl⟩
  have l1 : h1.length = h.length + 1 := by rw [hh1]; simp
  have l2 : h2.length = h1.length + 1 := by rw [hh2]; simp
  have k1 : Keep [] h h1 := hh1 ▸ Keep.app
  have k2 : Keep [] h1 h2 := hh2 ▸ Keep.app
  obtain ⟨h3, hh3⟩ : ∃ g, g = h2 ++ [AObj.arr [.int .i64 r.p] false] := ⟨_, rfl⟩
  have k23 : Keep [] h2 h3 := hh3 ▸ Keep.app
  have k3 : Keep [] h h3 := (k1.trans k2).trans k23
  obtain ⟨h4, e4, k4, r4⟩ := hf h3 o k3 (k3.get hr (by simp))
  have a1 : h2[h.length]? = some (.arr [.ptr id 0] false) := k2.get (hh1 ▸ get_new) (by simp)
  have z1 : h2[h1.length]? = some (.arr [(AV.str [])] false) := hh2 ▸ get_new
  have r1 : h2[id]? = some (.arr (r.cells o) false) := (k1.trans k2).get hr (by simp)
  have z4 := k4.get (k23.get z1 (by simp)) (by simp; omega)
  have e5 : stN 1 h4 (.ptr h1.length 0) (cur_ask_string.V v) = _ := st_str z4 (by simp)
  obtain ⟨h5, hh5⟩ : ∃ g, g = h4.set h1.length (.arr [cur_ask_string.V v] false) := ⟨_, rfl⟩
  have k5 : Keep [h1.length] h4 h5 := hh5 ▸ .set (by simp)
  have z5 : h5[h1.length]? = some (.arr [cur_ask_string.V v] false) := hh5 ▸ get_set z4
  have r5 := k5.rd r4 (by simp; omega)
  have kk : Keep [id] h h5 := ((k3.nil.trans (k4.mono (ids' := [h1.length, id]) (by simp))).trans (k5.mono (by simp))).drop (by omega)
  refine ⟨h5 ++ [.arr [.int .i64 0] false], cur_ask_string.den 1 ?_ rfl, kk.trans .app, (Keep.app (ids := [])).rd r5 (by simp)⟩
  rw [cur_ask_string.f_eq (cur_ask_string.fx 1)]
  rw [copy_ptr, bx_one (v := .ptr id 0) rfl]
  simp only [bind_some', cells_ptr]
  rw [← hh1, ← hh2]
  rw [ld_at a1, show ([AV.ptr id 0])[0]? = some (AV.ptr id 0) from rfl]
  simp only [bind_some', ptr_rd, eqv_ff, condV_false, nilOk_ptr, fAddr_ptr]
  rw [ld_at r1, show (r.cells o)[0 + 2]? = some (AV.int .i64 r.e) from rfl]
  simp only [bind_some', bin_neq, decide_eq_false (show ¬ ((r.e : Int) ≠ 0) by omega)]
  rw [cur_ask_string.j1_eq (cur_ask_string.fx 1)]
  simp only [condV_false]
  rw [cur_ask_string.j0_eq (cur_ask_string.fx 1)]
  rw [ld_at a1, show ([AV.ptr id 0])[0]? = some (AV.ptr id 0) from rfl]
  simp only [bind_some', nilOk_ptr, fAddr_ptr]
  rw [ld_at r1, show (r.cells o)[0 + 1]? = some (AV.int .i64 r.p) from rfl]
  simp only [bind_some', copy_int]
  have s1 := st_int (off := 0) (k := .i64) (z := r.p) (get_new (h := h2) (x := .arr [.int .i64 0] false)) (by simp)
  rw [set_new] at s1
  rw [s1]
  simp only [bind_some']
  have a2 : h3[h.length]? = some (.arr [.ptr id 0] false) := k23.get a1 (by simp)
  rw [show (h2 ++ [AObj.arr ([AV.int .i64 0].set 0 (AV.int .i64 r.p)) false]) = h3 from hh3.symm, ld_at a2, show ([AV.ptr id 0])[0]? = some (AV.ptr id 0) from rfl]
  simp only [bind_some', canon_ptr]
  rw [e4]
  simp only [bind_some', retOr_ret]
  rw [e5]
  simp only [bind_some']
  rw [cur_ask_string.dc_none']
  simp only [bind_some']
  rw [show (h4.set h1.length (AObj.arr ([(AV.str [])].set 0 (cur_ask_string.V v)) false)) = h5 from hh5.symm, ld_at (get_app z5)]
  rfl
/-- What can not be read is noted. -/
theorem cur_ask_string_pan {h : H} {id : Nat} {r : Rd} (fv : AV) (e : Nat) (hr : RdAt h id r) (he : r.e = 0)
    (hf : ∀ h1 o, Keep [] h h1 → h1[id]? = some (.arr (r.cells o) false) → ∃ h2 p', callVal D h1 fv [.ptr id 0] = some (.pan (.iface t_cur_broken (.agg [.int .i64 e])), h2) ∧ Keep [id] h1 h2 ∧ RdAt h2 id { r with p := p' }) :
    ∃ h', D n_cur_ask_string [.ptr id 0, fv] h = some (.ret (AV.str []), h') ∧ Keep [id] h h' ∧ RdAt h' id { r with e := e } := by
  obtain ⟨o, hr⟩ := hr
  have li := get_lt hr
  obtain ⟨h1, hh1⟩ : ∃ g, g = h ++ [AObj.arr [.ptr id 0] false] := ⟨_, rfl⟩
  obtain ⟨h2, hh2⟩ : ∃ g, g = h1 ++ [AObj.arr [(AV.str [])] false] := ⟨_, rfl⟩
  have l1 : h1.length = h.length + 1 := by rw [hh1]; simp
  have l2 : h2.length = h1.length + 1 := by rw [hh2]; simp
  have k1 : Keep [] h h1 := hh1 ▸ Keep.app
  have k2 : Keep [] h1 h2 := hh2 ▸ Keep.app
  obtain ⟨h3, hh3⟩ : ∃ g, g = h2 ++ [AObj.arr [.int .i64 r.p] false] := ⟨_, rfl⟩
  have k23 : Keep [] h2 h3 := hh3 ▸ Keep.app
  have k3 : Keep [] h h3 := (k1.trans k2).trans k23
  obtain ⟨h4, p', e4, k4, o4, r4⟩ := hf h3 o k3 (k3.get hr (by simp))
  have a1 : h2[h.length]? = some (.arr [.ptr id 0] false) := k2.get (hh1 ▸ get_new) (by simp)
  have z1 : h2[h1.length]? = some (.arr [(AV.str [])] false) := hh2 ▸ get_new
  have r1 : h2[id]? = some (.arr (r.cells o) false) := (k1.trans k2).get hr (by simp)
  have z4 := k4.get (k23.get z1 (by simp)) (by simp; omega)
  have a4 := k4.get (k23.get a1 (by simp)) (by simp; omega)
  have s4 := k4.get (j := h2.length) (show h3[h2.length]? = some (.arr [.int .i64 r.p] false) from hh3 ▸ get_new) (by simp; omega)
  obtain ⟨h5, e5, k5, r5, z5⟩ := cur_ask_string.dc_pan (call := D) (n := 1) (e := e) s4 z4 a4 r4 (by omega) (by omega) (by omega) (by omega) (by omega)
  have kk : Keep [id] h h5 := (Keep.trans (k3.nil.trans (k4.mono (ids' := [h1.length, id]) (by simp))) (k5.mono (by simp))).drop (by omega)
  refine ⟨h5, cur_ask_string.den 1 ?_ rfl, kk, o4, r5⟩
  rw [cur_ask_string.f_eq (cur_ask_string.fx 1)]
  rw [copy_ptr, bx_one (v := .ptr id 0) rfl]
  simp only [bind_some', cells_ptr]
  rw [← hh1, ← hh2]
  rw [ld_at a1, show ([AV.ptr id 0])[0]? = some (AV.ptr id 0) from rfl]
  simp only [bind_some', ptr_rd, eqv_ff, condV_false, nilOk_ptr, fAddr_ptr]
  rw [ld_at r1, show (r.cells o)[0 + 2]? = some (AV.int .i64 r.e) from rfl]
  simp only [bind_some', bin_neq, decide_eq_false (show ¬ ((r.e : Int) ≠ 0) by omega)]
  rw [cur_ask_string.j1_eq (cur_ask_string.fx 1)]
  simp only [condV_false]
  rw [cur_ask_string.j0_eq (cur_ask_string.fx 1)]
  rw [ld_at a1, show ([AV.ptr id 0])[0]? = some (AV.ptr id 0) from rfl]
  simp only [bind_some', nilOk_ptr, fAddr_ptr]
  rw [ld_at r1, show (r.cells o)[0 + 1]? = some (AV.int .i64 r.p) from rfl]
  simp only [bind_some', copy_int]
  have s1 := st_int (off := 0) (k := .i64) (z := r.p) (get_new (h := h2) (x := .arr [.int .i64 0] false)) (by simp)
  rw [set_new] at s1
  rw [s1]
  simp only [bind_some']
  have a2 : h3[h.length]? = some (.arr [.ptr id 0] false) := k23.get a1 (by simp)
  rw [show (h2 ++ [AObj.arr ([AV.int .i64 0].set 0 (AV.int .i64 r.p)) false]) = h3 from hh3.symm, ld_at a2, show ([AV.ptr id 0])[0]? = some (AV.ptr id 0) from rfl]
  simp only [bind_some', canon_ptr]
  rw [e4]
  simp only [bind_some', retOr_pan, copy_ptr]
  rw [e5]
  simp only [bind_some']
  rw [ld_at z5]
  rfl
end


section
abbrev cur_ask_uint32.V (v : Nat) : AV := .int .u32 v
theorem cur_ask_uint32.dc_none' {call : Cl} {n : Nat} (x0 x1 x2 : AV) (h : H) : cur_ask_uint32.dc call n n_cur_ask_uint32__c1 [x0, x1, x2] h .nilIface = some (h ++ [.arr [.int .i64 0] false]) := by
  rw [cur_ask_uint32.d147_eq]
  have hn : (h ++ [AObj.arr [.int .i64 0] false])[h.length]? = some (.arr [.int .i64 0] false) := get_new
  have e1 := st_agg (off := 0) (n := 1) (vs := [.int .i64 0]) hn (by simp) rfl rfl
  simp only [taTo, if_true, bind_some', exTuple_eq]
  rw [show ([AV.agg [AV.int .i64 0], AV.bool false])[0]? = some (AV.agg [AV.int .i64 0]) from rfl, show ([AV.agg [AV.int .i64 0], AV.bool false])[1]? = some (AV.bool false) from rfl]
  simp only [bind_some', condV_false]
  rw [show AV.copy (.agg [.int .i64 0]) = .agg [.int .i64 0] from rfl, e1]
  simp only [bind_some']
  congr 1
  simp [set_new]
theorem cur_ask_uint32.dc_pan {call : Cl} {n : Nat} {h : H} {s r a id : Nat} {b : AV} {p e : Int} {p' e' w : AV} (hs : h[s]? = some (.arr [.int .i64 p] false)) (hr : h[r]? = some (.arr [w] false)) (ha : h[a]? = some (.arr [.ptr id 0] false)) (hi : h[id]? = some (.arr [b, p', e'] false))
    (h1 : s ≠ r) (h2 : s ≠ id) (h3 : a ≠ r) (h4 : a ≠ id) (h5 : r ≠ id) :
    ∃ h', cur_ask_uint32.dc call n n_cur_ask_uint32__c1 [.ptr s 0, .ptr r 0, .ptr a 0] h (.iface t_cur_broken (.agg [.int .i64 e])) = some h' ∧ Keep [id, r] h h' ∧ h'[id]? = some (.arr [b, .int .i64 p, .int .i64 e] false) ∧ h'[r]? = some (.arr [(AV.int .u32 0)] false) := by
  have hn : (h ++ [AObj.arr [.int .i64 0] false])[h.length]? = some (.arr [.int .i64 0] false) := get_new
  have e1 := st_agg (off := 0) (n := 1) (vs := [.int .i64 e]) hn (by simp) rfl rfl
  rw [show List.take 0 [AV.int .i64 0] ++ [AV.int .i64 e] ++ List.drop (0 + [AV.int .i64 e].length) [AV.int .i64 0] = [.int .i64 e] from rfl, set_new] at e1
  have lr := get_lt hr
  have li := get_lt hi
  obtain ⟨g, hg⟩ : ∃ g, g = h ++ [AObj.arr [.int .i64 e] false] := ⟨_, rfl⟩
  rw [← hg] at e1
  have gs : g[s]? = some (.arr [.int .i64 p] false) := hg ▸ get_app hs
  have gr : g[r]? = some (.arr [w] false) := hg ▸ get_app hr
  have ga : g[a]? = some (.arr [.ptr id 0] false) := hg ▸ get_app ha
  have gi : g[id]? = some (.arr [b, p', e'] false) := hg ▸ get_app hi
  have gn : g[h.length]? = some (.arr [.int .i64 e] false) := hg ▸ get_new
  have e2 : stN 1 g (.ptr r 0) (AV.int .u32 0) = some (.undef, g.set r (.arr [(AV.int .u32 0)] false)) := st_int gr (by simp)
  have k2 : Keep [r] g (g.set r (.arr [(AV.int .u32 0)] false)) := .set (by simp)
  have gi2 := k2.get gi (by simp; omega)
  have gn2 := k2.get gn (by simp; omega)
  have gr2 := get_set (y := .arr [(AV.int .u32 0)] false) gr
  have e3 := st_int (off := 1) (k := .i64) (z := p) gi2 (by simp)
  have k3 : Keep [id] (g.set r (.arr [(AV.int .u32 0)] false)) ((g.set r (.arr [(AV.int .u32 0)] false)).set id (.arr ([b, p', e'].set 1 (.int .i64 p)) false)) := .set (by simp)
  have gi3 := get_set (y := .arr ([b, p', e'].set 1 (.int .i64 p)) false) gi2
  have gn3 := k3.get gn2 (by simp; omega)
  have gr3 := k3.get gr2 (by simp; omega)
  have e4 := st_int (off := 2) (k := .i64) (z := e) gi3 (by simp)
  have k4 : Keep [id] ((g.set r (.arr [(AV.int .u32 0)] false)).set id (.arr ([b, p', e'].set 1 (.int .i64 p)) false)) (((g.set r (.arr [(AV.int .u32 0)] false)).set id (.arr ([b, p', e'].set 1 (.int .i64 p)) false)).set id (.arr (([b, p', e'].set 1 (.int .i64 p)).set 2 (.int .i64 e)) false)) := .set (by simp)
  refine ⟨_, ?_, (Keep.trans (hg ▸ Keep.app) (k2.mono (by simp))).trans ((k3.mono (by simp)).trans (k4.mono (by simp))), get_set gi3, k4.get gr3 (by simp; omega)⟩
  rw [cur_ask_uint32.d147_eq]
  simp only [taTo, if_true, bind_some', exTuple_eq]
  rw [show ([AV.agg [AV.int .i64 e], AV.bool true])[0]? = some (AV.agg [AV.int .i64 e]) from rfl, show ([AV.agg [AV.int .i64 e], AV.bool true])[1]? = some (AV.bool true) from rfl]
  simp only [bind_some', condV_true]
  rw [show AV.copy (.agg [.int .i64 e]) = .agg [.int .i64 e] from rfl, e1]
  simp only [bind_some', ld_at ga, ld_at gs, fAddr_ptr, ld_at gn, e2, ld_at gn2]
  rw [show ([AV.ptr id 0])[0]? = some (AV.ptr id 0) from rfl, show ([AV.int .i64 p])[0]? = some (AV.int .i64 p) from rfl, show ([AV.int .i64 e])[0 + 0]? = some (AV.int .i64 e) from rfl]
  simp only [bind_some', eqO, eqb_self, whenB_true, nilOk_ptr, fAddr_ptr, copy_int]
  rw [show (0 + 1) = 1 from rfl, show (0 + 2) = 2 from rfl, e3]
  simp only [bind_some', ld_at gn3]
  rw [show ([AV.int .i64 e])[0 + 0]? = some (AV.int .i64 e) from rfl]
  simp only [bind_some', eqO, eqb_self, whenB_true, nilOk_ptr, fAddr_ptr, copy_int]
  rw [e4]
  rfl
/-- Where something is wrong nothing is read. -/
theorem cur_ask_uint32_bad {h : H} {id : Nat} {r : Rd} (fv : AV) (hr : RdAt h id r) (he : r.e ≠ 0) : ∃ h', D n_cur_ask_uint32 [.ptr id 0, fv] h = some (.ret (AV.int .u32 0), h') ∧ Keep [] h h' ∧ RdAt h' id r := by
  obtain ⟨o, hr⟩ := hr
  obtain ⟨h1, hh1⟩ : ∃ g, g = h ++ [AObj.arr [.ptr id 0] false] := ⟨_, rfl⟩
  obtain ⟨h2, hh2⟩ : ∃ g, g = h1 ++ [AObj.arr [(AV.int .u32 0)] false] := ⟨_, rfl⟩
  have l1 : h1.length = h.length + 1 := by rw [hh1]; simp
  have l2 : h2.length = h1.length + 1 := by rw [hh2]; simp
  have k1 : Keep [] h h1 := hh1 ▸ Keep.app
  have k2 : Keep [] h1 h2 := hh2 ▸ Keep.app
  have a1 : h2[h.length]? = some (.arr [.ptr id 0] false) := k2.get (hh1 ▸ get_new) (by simp)
  have z1 : h2[h1.length]? = some (.arr [(AV.int .u32 0)] false) := hh2 ▸ get_new
  have r1 : h2[id]? = some (.arr (r.cells o) false) := (k1.trans k2).get hr (by simp)
  have e1 : stN 1 h2 (.ptr h1.length 0) (AV.int .u32 0) = _ := st_int z1 (by simp)
  have k4 : Keep [] h (h2.set h1.length (.arr ([(AV.int .u32 0)].set 0 (AV.int .u32 0)) false)) := Keep.drop (id := h1.length) ((k1.trans k2).nil.trans (Keep.set (by simp))) (by omega)
  refine ⟨_, cur_ask_uint32.den 1 ?_ rfl, k4, o, k4.get hr (by simp)⟩
  rw [cur_ask_uint32.f_eq (cur_ask_uint32.fx 1)]
  rw [copy_ptr, bx_one (v := .ptr id 0) rfl]
  simp only [bind_some', cells_ptr]
  rw [← hh1, ← hh2]
  rw [ld_at a1, show ([AV.ptr id 0])[0]? = some (AV.ptr id 0) from rfl]
  simp only [bind_some', ptr_rd, eqv_ff, condV_false, nilOk_ptr, fAddr_ptr]
  rw [ld_at r1, show (r.cells o)[0 + 2]? = some (AV.int .i64 r.e) from rfl]
  simp only [bind_some', bin_neq, decide_eq_true (show ((r.e : Int) ≠ 0) by omega)]
  rw [cur_ask_uint32.j1_eq (cur_ask_uint32.fx 1)]
  simp only [condV_true]
  rw [ld_at z1, show ([(AV.int .u32 0)] : List AV)[0]? = some (AV.int .u32 0) from rfl]
  simp only [bind_some', copy_int]
  rw [e1]
  simp only [bind_some']
  rw [ld_at (get_set z1)]
  rfl
/-- What is read is told. -/
theorem cur_ask_uint32_ok {h : H} {id : Nat} {r r' : Rd} (fv : AV) (v : Nat) (hr : RdAt h id r) (he : r.e = 0)
    (hf : ∀ h1 o, Keep [] h h1 → h1[id]? = some (.arr (r.cells o) false) → ∃ h2, callVal D h1 fv [.ptr id 0] = some (.ret (cur_ask_uint32.V v), h2) ∧ Keep [id] h1 h2 ∧ RdAt h2 id r') :
    ∃ h', D n_cur_ask_uint32 [.ptr id 0, fv] h = some (.ret (cur_ask_uint32.V v), h') ∧ Keep [id] h h' ∧ RdAt h' id r' := by
  obtain ⟨o, hr⟩ := hr
  have li := get_lt hr
  obtain ⟨h1, hh1⟩ : ∃ g, g = h ++ [AObj.arr [.ptr id 0] false] := ⟨_, rfl⟩
  obtain ⟨h2, hh2⟩ : ∃ g, g = h1 ++ [AObj.arr [(AV.int .u32 0)] false] := ⟨_, rfl⟩
  have l1 : h1.length = h.length + 1 := by rw [hh1]; simp
  have l2 : h2.length = h1.length + 1 := by rw [hh2]; simp
  have k1 : Keep [] h h1 := hh1 ▸ Keep.app
  have k2 : Keep [] h1 h2 := hh2 ▸ Keep.app
  obtain ⟨h3, hh3⟩ : ∃ g, g = h2 ++ [AObj.arr [.int .i64 r.p] false] := ⟨_, rfl⟩
  have k23 : Keep [] h2 h3 := hh3 ▸ Keep.app
  have k3 : Keep [] h h3 := (k1.trans k2).trans k23
  obtain ⟨h4, e4, k4, r4⟩ := hf h3 o k3 (k3.get hr (by simp))
  have a1 : h2[h.length]? = some (.arr [.ptr id 0] false) := k2.get (hh1 ▸ get_new) (by simp)
  have z1 : h2[h1.length]? = some (.arr [(AV.int .u32 0)] false) := hh2 ▸ get_new
  have r1 : h2[id]? = some (.arr (r.cells o) false) := (k1.trans k2).get hr (by simp)
  have z4 := k4.get (k23.get z1 (by simp)) (by simp; omega)
  have e5 : stN 1 h4 (.ptr h1.length 0) (cur_ask_uint32.V v) = _ := st_int z4 (by simp)
  obtain ⟨h5, hh5⟩ : ∃ g, g = h4.set h1.length (.arr [cur_ask_uint32.V v] false) := ⟨_, rfl⟩
  have k5 : Keep [h1.length] h4 h5 := hh5 ▸ .set (by simp)
  have z5 : h5[h1.length]? = some (.arr [cur_ask_uint32.V v] false) := hh5 ▸ get_set z4
  have r5 := k5.rd r4 (by simp; omega)
  have kk : Keep [id] h h5 := ((k3.nil.trans (k4.mono (ids' := [h1.length, id]) (by simp))).trans (k5.mono (by simp))).drop (by omega)
  refine ⟨h5 ++ [.arr [.int .i64 0] false], cur_ask_uint32.den 1 ?_ rfl, kk.trans .app, (Keep.app (ids := [])).rd r5 (by simp)⟩
  rw [cur_ask_uint32.f_eq (cur_ask_uint32.fx 1)]
  rw [copy_ptr, bx_one (v := .ptr id 0) rfl]
  simp only [bind_some', cells_ptr]
  rw [← hh1, ← hh2]
  rw [ld_at a1, show ([AV.ptr id 0])[0]? = some (AV.ptr id 0) from rfl]
  simp only [bind_some', ptr_rd, eqv_ff, condV_false, nilOk_ptr, fAddr_ptr]
  rw [ld_at r1, show (r.cells o)[0 + 2]? = some (AV.int .i64 r.e) from rfl]
  simp only [bind_some', bin_neq, decide_eq_false (show ¬ ((r.e : Int) ≠ 0) by omega)]
  rw [cur_ask_uint32.j1_eq (cur_ask_uint32.fx 1)]
  simp only [condV_false]
  rw [cur_ask_uint32.j0_eq (cur_ask_uint32.fx 1)]
  rw [ld_at a1, show ([AV.ptr id 0])[0]? = some (AV.ptr id 0) from rfl]
  simp only [bind_some', nilOk_ptr, fAddr_ptr]
  rw [ld_at r1, show (r.cells o)[0 + 1]? = some (AV.int .i64 r.p) from rfl]
  simp only [bind_some', copy_int]
  have s1 := st_int (off := 0) (k := .i64) (z := r.p) (get_new (h := h2) (x := .arr [.int .i64 0] false)) (by simp)
  rw [set_new] at s1
  rw [s1]
  simp only [bind_some']
  have a2 : h3[h.length]? = some (.arr [.ptr id 0] false) := k23.get a1 (by simp)
  rw [show (h2 ++ [AObj.arr ([AV.int .i64 0].set 0 (AV.int .i64 r.p)) false]) = h3 from hh3.symm, ld_at a2, show ([AV.ptr id 0])[0]? = some (AV.ptr id 0) from rfl]
  simp only [bind_some', canon_ptr]
  rw [e4]
  simp only [bind_some', retOr_ret]
  rw [e5]
  simp only [bind_some']
  rw [cur_ask_uint32.dc_none']
  simp only [bind_some']
  rw [show (h4.set h1.length (AObj.arr ([(AV.int .u32 0)].set 0 (cur_ask_uint32.V v)) false)) = h5 from hh5.symm, ld_at (get_app z5)]
  rfl
/-- What can not be read is noted. -/
theorem cur_ask_uint32_pan {h : H} {id : Nat} {r : Rd} (fv : AV) (e : Nat) (hr : RdAt h id r) (he : r.e = 0)
    (hf : ∀ h1 o, Keep [] h h1 → h1[id]? = some (.arr (r.cells o) false) → ∃ h2 p', callVal D h1 fv [.ptr id 0] = some (.pan (.iface t_cur_broken (.agg [.int .i64 e])), h2) ∧ Keep [id] h1 h2 ∧ RdAt h2 id { r with p := p' }) :
    ∃ h', D n_cur_ask_uint32 [.ptr id 0, fv] h = some (.ret (AV.int .u32 0), h') ∧ Keep [id] h h' ∧ RdAt h' id { r with e := e } := by
  obtain ⟨o, hr⟩ := hr
  have li := get_lt hr
  obtain ⟨h1, hh1⟩ : ∃ g, g = h ++ [AObj.arr [.ptr id 0] false] := ⟨_, rfl⟩
  obtain ⟨h2, hh2⟩ : ∃ g, g = h1 ++ [AObj.arr [(AV.int .u32 0)] false] := ⟨_, rfl⟩
  have l1 : h1.length = h.length + 1 := by rw [hh1]; simp
  have l2 : h2.length = h1.length + 1 := by rw [hh2]; simp
  have k1 : Keep [] h h1 := hh1 ▸ Keep.app
  have k2 : Keep [] h1 h2 := hh2 ▸ Keep.app
  obtain ⟨h3, hh3⟩ : ∃ g, g = h2 ++ [AObj.arr [.int .i64 r.p] false] := ⟨_, rfl⟩
  have k23 : Keep [] h2 h3 := hh3 ▸ Keep.app
  have k3 : Keep [] h h3 := (k1.trans k2).trans k23
  obtain ⟨h4, p', e4, k4, o4, r4⟩ := hf h3 o k3 (k3.get hr (by simp))
  have a1 : h2[h.length]? = some (.arr [.ptr id 0] false) := k2.get (hh1 ▸ get_new) (by simp)
  have z1 : h2[h1.length]? = some (.arr [(AV.int .u32 0)] false) := hh2 ▸ get_new
  have r1 : h2[id]? = some (.arr (r.cells o) false) := (k1.trans k2).get hr (by simp)
  have z4 := k4.get (k23.get z1 (by simp)) (by simp; omega)
  have a4 := k4.get (k23.get a1 (by simp)) (by simp; omega)
  have s4 := k4.get (j := h2.length) (show h3[h2.length]? = some (.arr [.int .i64 r.p] false) from hh3 ▸ get_new) (by simp; omega)
  obtain ⟨h5, e5, k5, r5, z5⟩ := cur_ask_uint32.dc_pan (call := D) (n := 1) (e := e) s4 z4 a4 r4 (by omega) (by omega) (by omega) (by omega) (by omega)
  have kk : Keep [id] h h5 := (Keep.trans (k3.nil.trans (k4.mono (ids' := [h1.length, id]) (by simp))) (k5.mono (by simp))).drop (by omega)
  refine ⟨h5, cur_ask_uint32.den 1 ?_ rfl, kk, o4, r5⟩
  rw [cur_ask_uint32.f_eq (cur_ask_uint32.fx 1)]
  rw [copy_ptr, bx_one (v := .ptr id 0) rfl]
  simp only [bind_some', cells_ptr]
  rw [← hh1, ← hh2]
  rw [ld_at a1, show ([AV.ptr id 0])[0]? = some (AV.ptr id 0) from rfl]
  simp only [bind_some', ptr_rd, eqv_ff, condV_false, nilOk_ptr, fAddr_ptr]
  rw [ld_at r1, show (r.cells o)[0 + 2]? = some (AV.int .i64 r.e) from rfl]
  simp only [bind_some', bin_neq, decide_eq_false (show ¬ ((r.e : Int) ≠ 0) by omega)]
  rw [cur_ask_uint32.j1_eq (cur_ask_uint32.fx 1)]
  simp only [condV_false]
  rw [cur_ask_uint32.j0_eq (cur_ask_uint32.fx 1)]
  rw [ld_at a1, show ([AV.ptr id 0])[0]? = some (AV.ptr id 0) from rfl]
  simp only [bind_some', nilOk_ptr, fAddr_ptr]
  rw [ld_at r1, show (r.cells o)[0 + 1]? = some (AV.int .i64 r.p) from rfl]
  simp only [bind_some', copy_int]
  have s1 := st_int (off := 0) (k := .i64) (z := r.p) (get_new (h := h2) (x := .arr [.int .i64 0] false)) (by simp)
  rw [set_new] at s1
  rw [s1]
  simp only [bind_some']
  have a2 : h3[h.length]? = some (.arr [.ptr id 0] false) := k23.get a1 (by simp)
  rw [show (h2 ++ [AObj.arr ([AV.int .i64 0].set 0 (AV.int .i64 r.p)) false]) = h3 from hh3.symm, ld_at a2, show ([AV.ptr id 0])[0]? = some (AV.ptr id 0) from rfl]
  simp only [bind_some', canon_ptr]
  rw [e4]
  simp only [bind_some', retOr_pan, copy_ptr]
  rw [e5]
  simp only [bind_some']
  rw [ld_at z5]
  rfl
end

end Go.Proofs.YtdlnkfghgbddhaaGreat
