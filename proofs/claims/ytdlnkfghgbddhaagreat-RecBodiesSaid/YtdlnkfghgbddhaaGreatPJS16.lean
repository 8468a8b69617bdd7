/- What the functions of the records' layer come to: 16: the kinds of changes. -/
import Derived.Test.YtdlnkfghgbddhaaGreatPJS15
set_option linter.all false

open Go Go.Ve Go.Proofs
namespace Go.Proofs.YtdlnkfghgbddhaaGreat
set_option maxRecDepth 100000
set_option linter.all false

abbrev Fn1 (n : Nat) : AV := .func (.func n) [] []
def K0 : List AV := [.list [] .cap, .list [] .cap, .nilFunc]
def K1 (z : Nat) : List AV := [.list [[Fn1 n_rec_pen_alarm]] .cap, .list [[Fn1 n_rec_taker_alarm]] .cap, .func (.func n_rec_kinds_c2) [] [.ptr z 0]]
def K2 (z : Nat) : List AV := [.list [[Fn1 n_rec_pen_note]] .cap, .list [[Fn1 n_rec_taker_note]] .cap, .func (.func n_rec_kinds_c3) [] [.ptr z 0]]
def K3 : List AV := [.list [] .cap, .list [] .cap, Fn1 n_rec_kinds_c1]
def K5 : List AV := [.list [[Fn1 n_rec_pen_alarm], [Fn1 n_rec_pen_stand], [Fn1 n_rec_pen_note]] .cap, .list [[Fn1 n_rec_taker_alarm], [Fn1 n_rec_taker_stand], [Fn1 n_rec_taker_note]] .cap, Fn1 n_rec_Right]
def kindsM (z : Nat) : List (AV × AV) := [(.int .i64 1, .agg (K1 z)), (.int .i64 2, .agg (K2 z)), (.int .i64 3, .agg K3), (.int .i64 4, .agg K3), (.int .i64 5, .agg K5)]
def kindOf (z : Nat) (k : Int) : List AV := if k = 1 then K1 z else if k = 2 then K2 z else if k = 3 then K3 else if k = 4 then K3 else if k = 5 then K5 else K0
def isKind (k : Int) : Bool := decide (k = 1 ∨ k = 2 ∨ k = 3 ∨ k = 4 ∨ k = 5)
theorem lk_kinds {h : H} {id z : Nat} (hi : h[id]? = some (.map (kindsM z))) (k : Int) (ok : Bool) : lkMap .int (.agg K0) h (.map id) (.int .i64 k) ok = some (if ok then .tuple [.agg (kindOf z k), .bool (isKind k)] else .agg (kindOf z k)) := by
  have e : ∀ ok, lkMap .int (.agg K0) [.map (kindsM z)] (.map 0) (.int .i64 k) ok = some (if ok then .tuple [.agg (kindOf z k), .bool (isKind k)] else .agg (kindOf z k)) := by
    intro ok
    by_cases e1 : k = 1
    · subst e1; rfl
    by_cases e2 : k = 2
    · subst e2; rfl
    by_cases e3 : k = 3
    · subst e3; rfl
    by_cases e4 : k = 4
    · subst e4; rfl
    by_cases e5 : k = 5
    · subst e5; rfl
    have f1 : (k == 1) = false := by simpa using e1
    have f2 : (k == 2) = false := by simpa using e2
    have f3 : (k == 3) = false := by simpa using e3
    have f4 : (k == 4) = false := by simpa using e4
    have f5 : (k == 5) = false := by simpa using e5
    simp [lkMap, kindsM, kindOf, isKind, isKey, findKey, keyEq, f1, f2, f3, f4, f5, e1, e2, e3, e4, e5]
  rw [← e ok]
  unfold lkMap
  rw [mapEs_map, hi, mapEs_map]
  rfl
theorem up_new {G : H} {es : List (AV × AV)} {k : Int} {v : AV} (hk : findKey (.int .i64 k) es 0 = some none) : upMap .int (G ++ [.map es]) (.map G.length) (.int .i64 k) v = some (.undef, G ++ [.map (es ++ [(.int .i64 k, v.copy)])]) := by
  unfold upMap
  simp only [get_new, isKey, if_true, hk, bind_some', set_new]
theorem kinds_den (h : H) : D n_rec_kinds [] h = some (.ret (.map (h.length + 1)), (h ++ [.arr [Fn1 n_rec_kinds_c1] false]) ++ [.map (kindsM h.length)]) := by
  refine rec_kinds.den 1 ?_ rfl
  rw [rec_kinds.f_eq (rec_kinds.fx 1)]
  obtain ⟨G, hG⟩ : ∃ G, G = h ++ [AObj.arr [Fn1 n_rec_kinds_c1] false] := ⟨_, rfl⟩
  have st : stN 1 (h ++ [AObj.arr [.nilFunc] false]) (.ptr h.length 0) (AV.copy (Fn1 n_rec_kinds_c1)) = some (.undef, G) := by
    rw [stN_ptr, get_new, objSet_arr]
    rw [hG]
    simp [splice, set_new]
  have gG : G.length = h.length + 1 := by rw [hG]; simp
  have ld : ∀ es, ldCell (G ++ [AObj.map es]) (.ptr h.length 0) = some (Fn1 n_rec_kinds_c1) := by
    intro es
    rw [hG, ld_at (get_app get_new)]
    rfl
  have u1 : upMap .int (G ++ [.map []]) (.map G.length) (.int .i64 1) (.agg (K1 h.length)) = some (.undef, G ++ [.map [(.int .i64 1, .agg (K1 h.length))]]) := up_new rfl
  have u2 : upMap .int (G ++ [.map [(.int .i64 1, .agg (K1 h.length))]]) (.map G.length) (.int .i64 2) (.agg (K2 h.length)) = some (.undef, G ++ [.map [(.int .i64 1, .agg (K1 h.length)), (.int .i64 2, .agg (K2 h.length))]]) := up_new rfl
  have u3 : upMap .int (G ++ [.map [(.int .i64 1, .agg (K1 h.length)), (.int .i64 2, .agg (K2 h.length))]]) (.map G.length) (.int .i64 3) (.agg K3) = some (.undef, G ++ [.map [(.int .i64 1, .agg (K1 h.length)), (.int .i64 2, .agg (K2 h.length)), (.int .i64 3, .agg K3)]]) := up_new rfl
  have u4 : upMap .int (G ++ [.map [(.int .i64 1, .agg (K1 h.length)), (.int .i64 2, .agg (K2 h.length)), (.int .i64 3, .agg K3)]]) (.map G.length) (.int .i64 4) (.agg K3) = some (.undef, G ++ [.map [(.int .i64 1, .agg (K1 h.length)), (.int .i64 2, .agg (K2 h.length)), (.int .i64 3, .agg K3), (.int .i64 4, .agg K3)]]) := up_new rfl
  have u5 : upMap .int (G ++ [.map [(.int .i64 1, .agg (K1 h.length)), (.int .i64 2, .agg (K2 h.length)), (.int .i64 3, .agg K3), (.int .i64 4, .agg K3)]]) (.map G.length) (.int .i64 5) (.agg K5) = some (.undef, G ++ [.map (kindsM h.length)]) := up_new rfl
  simp only [st, bind_some']
  rw [show mkRows 1 [.nilFunc] 1 [(0, .func (.func n_rec_pen_alarm) [] [])] = some (.list [[Fn1 n_rec_pen_alarm]] .cap) from rfl]
  simp only [bind_some']
  rw [show mkRows 1 [.nilFunc] 1 [(0, .func (.func n_rec_taker_alarm) [] [])] = some (.list [[Fn1 n_rec_taker_alarm]] .cap) from rfl]
  simp only [bind_some']
  rw [show mkAgg [.list [] .cap, .list [] .cap, .nilFunc] [(0, 1, AV.copy (.list [[Fn1 n_rec_pen_alarm]] .cap)), (1, 1, AV.copy (.list [[Fn1 n_rec_taker_alarm]] .cap)), (2, 1, AV.copy (.func (.func n_rec_kinds_c2) [] [AV.copy (.ptr h.length 0)]))] = some (.agg (K1 h.length)) from rfl]
  simp only [bind_some', u1]
  rw [show mkRows 1 [.nilFunc] 1 [(0, .func (.func n_rec_pen_note) [] [])] = some (.list [[Fn1 n_rec_pen_note]] .cap) from rfl]
  simp only [bind_some']
  rw [show mkRows 1 [.nilFunc] 1 [(0, .func (.func n_rec_taker_note) [] [])] = some (.list [[Fn1 n_rec_taker_note]] .cap) from rfl]
  simp only [bind_some']
  rw [show mkAgg [.list [] .cap, .list [] .cap, .nilFunc] [(0, 1, AV.copy (.list [[Fn1 n_rec_pen_note]] .cap)), (1, 1, AV.copy (.list [[Fn1 n_rec_taker_note]] .cap)), (2, 1, AV.copy (.func (.func n_rec_kinds_c3) [] [AV.copy (.ptr h.length 0)]))] = some (.agg (K2 h.length)) from rfl]
  simp only [bind_some', u2, ld]
  rw [show mkAgg [.list [] .cap, .list [] .cap, .nilFunc] [(2, 1, AV.copy (Fn1 n_rec_kinds_c1))] = some (.agg K3) from rfl]
  simp only [bind_some', u3, ld]
  rw [show mkAgg [.list [] .cap, .list [] .cap, .nilFunc] [(2, 1, AV.copy (Fn1 n_rec_kinds_c1))] = some (.agg K3) from rfl]
  simp only [bind_some', u4]
  rw [show mkRows 1 [.nilFunc] 3 [(0, .func (.func n_rec_pen_alarm) [] []), (1, .func (.func n_rec_pen_stand) [] []), (2, .func (.func n_rec_pen_note) [] [])] = some (.list [[Fn1 n_rec_pen_alarm], [Fn1 n_rec_pen_stand], [Fn1 n_rec_pen_note]] .cap) from rfl]
  simp only [bind_some']
  rw [show mkRows 1 [.nilFunc] 3 [(0, .func (.func n_rec_taker_alarm) [] []), (1, .func (.func n_rec_taker_stand) [] []), (2, .func (.func n_rec_taker_note) [] [])] = some (.list [[Fn1 n_rec_taker_alarm], [Fn1 n_rec_taker_stand], [Fn1 n_rec_taker_note]] .cap) from rfl]
  simp only [bind_some']
  rw [show mkAgg [.list [] .cap, .list [] .cap, .nilFunc] [(0, 1, AV.copy (.list [[Fn1 n_rec_pen_alarm], [Fn1 n_rec_pen_stand], [Fn1 n_rec_pen_note]] .cap)), (1, 1, AV.copy (.list [[Fn1 n_rec_taker_alarm], [Fn1 n_rec_taker_stand], [Fn1 n_rec_taker_note]] .cap)), (2, 1, AV.copy (.func (.func n_rec_Right) [] []))] = some (.agg K5) from rfl]
  simp only [bind_some', u5]
  rw [← gG, hG]
  rfl

theorem zero_den (e : Entry) (h : H) : D n_rec_kinds_c1 [.agg e.c] h = some (.ret (.bool (decide (e.alarm = .none ∧ e.state = 0 ∧ e.count = 0 ∧ e.note = []))), h) := by
  refine rec_kinds_c1.den 1 (by simp [pureL, AV.pure]) (h' := [.arr e.c false]) ?_ rfl rfl
  have g : ([AObj.arr e.c false] : H)[0]? = some (.arr e.c false) := rfl
  rw [rec_kinds_c1.f_eq (rec_kinds_c1.fx 1)]
  rw [copy_agg, Entry.c_copy, bx_agg e.c_one]
  simp only [bind_some', List.length_nil, List.nil_append, fAddr_ptr, ld_at g, ldA_at g, Entry.agg, e.c0, copy_int]
  rw [show mkAgg [.int .u64 0, .int .i64 0, .int .i64 0, .str [], .str [], .int .i64 0, .str [], .int .i64 0, .int .i64 0, .str []] [(0, 1, .int .u64 (e.finger.val : Int))] = some (.agg (⟨e.finger, .none, 0, 0, []⟩ : Entry).c) from rfl]
  simp only [bind_some', entry_eq, eqv_f, copy_bool]
  rw [decide_eq_decide.2 (show (e = ⟨e.finger, .none, 0, 0, []⟩ ↔ e.alarm = .none ∧ e.state = 0 ∧ e.count = 0 ∧ e.note = []) by
    rcases e with ⟨f, a, s, c, n⟩
    simp)]
theorem c2k_den (e : Entry) (z : Nat) (h : H) (hz : h[z]? = some (.arr [Fn1 n_rec_kinds_c1] false)) : D n_rec_kinds_c2 [.agg e.c, .ptr z 0] h = some (.ret (.bool (e.alarm.ok && decide (e.state = 0 ∧ e.count = 0 ∧ e.note = []))), h ++ [.arr e.c false]) := by
  refine rec_kinds_c2.den 1 ?_ rfl
  obtain ⟨G, hG⟩ : ∃ G, G = h ++ [AObj.arr e.c false] := ⟨_, rfl⟩
  have g : G[h.length]? = some (.arr e.c false) := hG ▸ get_new
  have gz : G[z]? = some (.arr [Fn1 n_rec_kinds_c1] false) := hG ▸ get_app hz
  rw [rec_kinds_c2.f_eq (rec_kinds_c2.fx 1)]
  rw [copy_agg, Entry.c_copy, bx_agg e.c_one]
  simp only [bind_some', ← hG, fAddr_ptr, ld_at g, ldA_at g, e.alarmAt, e.c7, e.c8, e.c9, canon_agg, Alarm.c_canon, alarm_den, retOr_ret, bin_eql, ld_at gz, copy_int, copy_str, copy_bool]
  rw [show ([Fn1 n_rec_kinds_c1])[0]? = some (Fn1 n_rec_kinds_c1) from rfl]
  simp only [bind_some']
  rw [show mkAgg [.int .u64 0, .int .i64 0, .int .i64 0, .str [], .str [], .int .i64 0, .str [], .int .i64 0, .int .i64 0, .str []] [(7, 1, .int .i64 e.state), (8, 1, .int .i64 e.count), (9, 1, .str e.note)] = some (.agg (⟨0, .none, e.state, e.count, e.note⟩ : Entry).c) from rfl]
  simp only [bind_some', canon_agg, Entry.c_canon]
  rw [show ∀ x, callVal D G (Fn1 n_rec_kinds_c1) [x] = D n_rec_kinds_c1 [x] G from fun x => rfl, zero_den]
  simp only [bind_some', retOr_ret, copy_bool, true_and]
  cases e.alarm.ok <;> rfl
theorem c3k_den (e : Entry) (z : Nat) (h : H) (hz : h[z]? = some (.arr [Fn1 n_rec_kinds_c1] false)) : D n_rec_kinds_c3 [.agg e.c, .ptr z 0] h = some (.ret (.bool (noteS e.note && decide (e.alarm = .none ∧ e.state = 0 ∧ e.count = 0))), h ++ [.arr e.c false]) := by
  refine rec_kinds_c3.den 1 ?_ rfl
  obtain ⟨G, hG⟩ : ∃ G, G = h ++ [AObj.arr e.c false] := ⟨_, rfl⟩
  have g : G[h.length]? = some (.arr e.c false) := hG ▸ get_new
  have gz : G[z]? = some (.arr [Fn1 n_rec_kinds_c1] false) := hG ▸ get_app hz
  rw [rec_kinds_c3.f_eq (rec_kinds_c3.fx 1)]
  rw [copy_agg, Entry.c_copy, bx_agg e.c_one]
  simp only [bind_some', ← hG, fAddr_ptr, ld_at g, ldA_at g, e.alarmAt, e.c7, e.c8, e.c9, canon_str, recnote_den, retOr_ret, ld_at gz, copy_int, copy_agg, Alarm.c_copy, copy_bool]
  rw [show ([Fn1 n_rec_kinds_c1])[0]? = some (Fn1 n_rec_kinds_c1) from rfl]
  simp only [bind_some']
  rw [show mkAgg [.int .u64 0, .int .i64 0, .int .i64 0, .str [], .str [], .int .i64 0, .str [], .int .i64 0, .int .i64 0, .str []] [(1, 6, .agg e.alarm.c), (7, 1, .int .i64 e.state), (8, 1, .int .i64 e.count)] = some (.agg (⟨0, e.alarm, e.state, e.count, []⟩ : Entry).c) from rfl]
  simp only [bind_some', canon_agg, Entry.c_canon]
  rw [show ∀ x, callVal D G (Fn1 n_rec_kinds_c1) [x] = D n_rec_kinds_c1 [x] G from fun x => rfl, zero_den]
  simp only [bind_some', retOr_ret, copy_bool, and_true]
  cases noteS e.note <;> rfl
/-- Whether a kind's entry may be. -/
theorem may_den (z : Nat) (k : Int) (e : Entry) (hk : isKind k = true) (h : H) (hz : h[z]? = some (.arr [Fn1 n_rec_kinds_c1] false)) : ∃ f h', (kindOf z k)[0 + 2]? = some f ∧ callVal D h f [.agg e.c] = some (.ret (.bool (Change.ok ⟨k, e⟩)), h') ∧ Keep [] h h' := by
  unfold kindOf Change.ok
  unfold isKind at hk
  simp only [decide_eq_true_eq] at hk
  by_cases e1 : k = 1
  · simp only [if_pos e1]
    exact ⟨_, _, rfl, c2k_den e z h hz, .app⟩
  by_cases e2 : k = 2
  · simp only [if_neg e1, if_pos e2]
    exact ⟨_, _, rfl, c3k_den e z h hz, .app⟩
  by_cases e3 : k = 3
  · simp only [if_neg e1, if_neg e2, if_pos e3, if_pos (show k = 3 ∨ k = 4 from .inl e3)]
    exact ⟨_, _, rfl, zero_den e h, .refl _ _⟩
  by_cases e4 : k = 4
  · simp only [if_neg e1, if_neg e2, if_neg e3, if_pos e4, if_pos (show k = 3 ∨ k = 4 from .inr e4)]
    exact ⟨_, _, rfl, zero_den e h, .refl _ _⟩
  by_cases e5 : k = 5
  · simp only [if_neg e1, if_neg e2, if_neg e3, if_neg e4, if_pos e5, if_neg (show ¬ (k = 3 ∨ k = 4) by omega)]
    exact ⟨_, _, rfl, right_den e h, .refl _ _⟩
  omega
theorem noKind {k : Int} (hk : isKind k = false) (e : Entry) : Change.ok ⟨k, e⟩ = false := by
  unfold isKind at hk
  simp only [decide_eq_false_iff_not] at hk
  unfold Change.ok
  rw [if_neg (by show ¬ k = 1; omega), if_neg (by show ¬ k = 2; omega), if_neg (by show ¬ (k = 3 ∨ k = 4); omega), if_neg (by show ¬ k = 5; omega)]
theorem kindOf_one (z : Nat) (k : Int) : (kindOf z k).all AV.one = true ∧ (kindOf z k).length = 3 ∧ (kindOf z k).map AV.copyCell = kindOf z k := by
  unfold kindOf
  split
  · exact ⟨rfl, rfl, rfl⟩
  split
  · exact ⟨rfl, rfl, rfl⟩
  split
  · exact ⟨rfl, rfl, rfl⟩
  split
  · exact ⟨rfl, rfl, rfl⟩
  split
  · exact ⟨rfl, rfl, rfl⟩
  · exact ⟨rfl, rfl, rfl⟩
theorem check_den (x : Change) (h : H) : D n_rec_Check [.agg x.c] h = some (.ret (.int .i64 (if x.ok then 0 else 270)), h) := by
  have key : ∃ h', rec_Check.f (rec_Check.JD 1) (.agg x.c) [] = some (.ret (.int .i64 (if x.ok then 0 else 270)), h') := by
    have ej : ∀ b h, rec_Check.j0 (rec_Check.JD 1) (.bool b) h = some (.ret (.int .i64 (if b then 270 else 0)), h) := by
      intro b h
      rw [rec_Check.j0_eq (rec_Check.fx 1)]
      cases b <;> rfl
    obtain ⟨G, hG⟩ : ∃ G : H, G = [AObj.arr x.c false, AObj.arr K0 false, .arr [Fn1 n_rec_kinds_c1] false, .map (kindsM 2)] := ⟨_, rfl⟩
    have gx : G[0]? = some (.arr x.c false) := by rw [hG]; rfl
    have gk : G[1]? = some (.arr K0 false) := by rw [hG]; rfl
    have gz : G[2]? = some (.arr [Fn1 n_rec_kinds_c1] false) := by rw [hG]; rfl
    have gm : G[3]? = some (.map (kindsM 2)) := by rw [hG]; rfl
    have ek : D n_rec_kinds [] [AObj.arr x.c false, AObj.arr K0 false] = some (.ret (.map 3), G) := by rw [kinds_den, hG]; rfl
    obtain ⟨k1, k2, k3⟩ := kindOf_one 2 x.kind
    have st : stN 3 G (.ptr 1 0) (.agg (kindOf 2 x.kind)) = some (.undef, G.set 1 (.arr (kindOf 2 x.kind) false)) := by
      rw [st_agg gk (by rw [k2]; decide) k2 k1, k2]
      simp [K0]
    rw [rec_Check.f_eq (rec_Check.fx 1)]
    rw [copy_agg, Change.c_copy, bx_agg x.c_one]
    simp only [bind_some', List.length_nil, List.nil_append]
    rw [show ([AObj.arr x.c false] ++ [AObj.arr [.list [] .cap, .list [] .cap, .nilFunc] false] : H) = [AObj.arr x.c false, AObj.arr K0 false] from rfl, ek]
    simp only [bind_some', retOr_ret, fAddr_ptr, ld_at gx, x.c0]
    rw [ld_at (h := [AObj.arr x.c false, AObj.arr K0 false]) (id := 0) rfl, x.c0]
    simp only [eqO, eqb_self, whenB_true]
    have lk := lk_kinds gm x.kind true
    rw [show (AV.agg K0) = .agg [.list [] .cap, .list [] .cap, .nilFunc] from rfl] at lk
    rw [lk]
    simp only [bind_some', if_true, exTuple_eq]
    rw [show ([AV.agg (kindOf 2 x.kind), .bool (isKind x.kind)])[0]? = some (.agg (kindOf 2 x.kind)) from rfl, show ([AV.agg (kindOf 2 x.kind), .bool (isKind x.kind)])[1]? = some (.bool (isKind x.kind)) from rfl]
    simp only [bind_some', List.length_singleton]
    have sl : ∀ H : List AObj, H[1]? = some (.arr K0 false) → slotOp 1 [.list [] .cap, .list [] .cap, .nilFunc] H = some (.ptr 1 0) := by
      intro H hH
      unfold slotOp
      rw [hH]
      rfl
    rw [sl G gk, sl [AObj.arr x.c false, AObj.arr K0 false] rfl]
    simp only [bind_some', eqO, eqb_self, whenB_true, copy_agg, k3, st, not_bool]
    cases hk : isKind x.kind with
    | false =>
      have := noKind hk x.entry
      refine ⟨G.set 1 (.arr (kindOf 2 x.kind) false), ?_⟩
      simp only [Bool.not_false, condV_true, ej, if_true]
      rw [show x.ok = false from this]
      rfl
    | true =>
      have g1 : (G.set 1 (.arr (kindOf 2 x.kind) false))[1]? = some (.arr (kindOf 2 x.kind) false) := get_set gk
      have gx1 : (G.set 1 (.arr (kindOf 2 x.kind) false))[0]? = some (.arr x.c false) := (Keep.set (ids := [1]) (by simp)).get gx (by simp)
      have gz1 : (G.set 1 (.arr (kindOf 2 x.kind) false))[2]? = some (.arr [Fn1 n_rec_kinds_c1] false) := (Keep.set (ids := [1]) (by simp)).get gz (by simp)
      obtain ⟨f, h', ef, ec, _⟩ := may_den 2 x.kind x.entry hk _ gz1
      refine ⟨h', ?_⟩
      simp only [Bool.not_true, condV_false, fAddr_ptr, bind_some', ld_at g1, ef, ldA_at gx1, x.entryAt, canon_agg, Entry.c_canon, ec, retOr_ret, not_bool, ej]
      rw [show (⟨x.kind, x.entry⟩ : Change) = x from rfl]
      cases x.ok <;> rfl
  obtain ⟨h', key⟩ := key
  exact rec_Check.den 1 (by simp [pureL, AV.pure]) key rfl rfl
end Go.Proofs.YtdlnkfghgbddhaaGreat
