import Derived.Test.YtdlnkfghgbddhaaGreatVb3
import Derived.Test.YtdlnkfghgbddhaaGreatVa5
import Derived.Test.YtdlnkfghgbddhaaGreatVa6
set_option linter.all false
open Go Go.Ve Go.Proofs
namespace Go.Proofs.YtdlnkfghgbddhaaGreat
set_option maxRecDepth 100000
set_option linter.all false
theorem rNumZ_den {z : Int} (h1 : 0 ≤ z) (h2 : z ≤ 2 ^ 62) (h : H) : D n_warrantorref02_Num [.int .i64 z] h = some (.ret (BL (lebB z.toNat) (.own 1)), h) := by
  have := rNum_den z.toNat (by omega) h
  rwa [Int.toNat_of_nonneg h1] at this
theorem apO {l l' : List UInt8} {o' : Own} {h : H} (hl : l.length + l'.length ≤ 2 ^ 40) : apSlice 1 1 true true h (BL l (.own 1)) (BL l' o') = some (BL (l ++ l') (.own 1)) := BL_app rfl hl
theorem rAl_den (a : Alarm) (ha : a.ok = true) (h : H) : D n_warrantorref27_alarm [.agg a.c] h = some (.ret (BL (alB a) (.own 1)), h) := by
  have q := Alarm.ok_nums ha
  have l1 := lebB_10 (n := a.kind.toNat) (by omega)
  have l2 := lebB_10 (n := a.sev.toNat) (by omega)
  have l3 := lebB_10 (n := a.line.toNat) (by omega)
  have t1 := txB_len (s := a.func) (by omega)
  have t2 := txB_len (s := a.file) (by omega)
  have t3 := txB_len (s := a.expr) (by omega)
  have g : ([AObj.arr a.c false] : H)[0]? = some (.arr a.c false) := rfl
  refine ref27_alarm.den 1 (by simp [pureL, AV.pure]) (h' := [.arr a.c false]) ?_ (by simp [AV.pure]) rfl
  rw [ref27_alarm.f_eq (ref27_alarm.fx 1)]
  rw [copy_agg, Alarm.c_copy, bx_agg a.c_one]
  have e1 := apO (l := lebB a.kind.toNat) (l' := lebB a.sev.toNat) (o' := .own 1) (h := [AObj.arr a.c false]) (by omega)
  have e2 := apO (l := lebB a.kind.toNat ++ lebB a.sev.toNat) (l' := txB a.func) (o' := .own 1) (h := [AObj.arr a.c false]) (by simp; omega)
  have e3 := apO (l := lebB a.kind.toNat ++ lebB a.sev.toNat ++ txB a.func) (l' := txB a.file) (o' := .own 1) (h := [AObj.arr a.c false]) (by simp; omega)
  have e4 := apO (l := lebB a.kind.toNat ++ lebB a.sev.toNat ++ txB a.func ++ txB a.file) (l' := lebB a.line.toNat) (o' := .own 1) (h := [AObj.arr a.c false]) (by simp; omega)
  have e5 := apO (l := lebB a.kind.toNat ++ lebB a.sev.toNat ++ txB a.func ++ txB a.file ++ lebB a.line.toNat) (l' := txB a.expr) (o' := .own 1) (h := [AObj.arr a.c false]) (by simp; omega)
  simp only [bind_some', List.length_nil, List.nil_append, fAddr_ptr, ld_at g, a.a0, a.a1, a.a2, a.a3, a.a4, a.a5, canon_int, canon_str, rNumZ_den (show 0 ≤ a.kind by omega) (by omega), rNumZ_den (show 0 ≤ a.sev by omega) (by omega), rNumZ_den (show 0 ≤ a.line by omega) (by omega), rText_den a.func (by omega), rText_den a.file (by omega), rText_den a.expr (by omega), retOr_ret, e1, e2, e3, e4, e5]
  simp [alB, List.append_assoc]
theorem ok_note {x : Change} (h : x.ok = true) : x.entry.note.length ≤ 64 := by
  rcases ok_cases h with q | q | q | q
  · rw [q.2.2.2.2]; simp
  · exact noteS_len q.2.1
  · rw [q.2.2.2.2]; simp
  · exact noteS_len (Entry.ok_nums q.2).2.2.2.2.2
theorem u64rem (n : Nat) : bin .rem (.int .u64 (n : Int)) (.int .u64 4294967296) = some (.int .u64 ((n % 4294967296 : Nat) : Int)) := by
  rw [bin_rem, if_neg (by decide)]; rfl
theorem u64quo (n : Nat) (hn : n < 2 ^ 64) : bin .quo (.int .u64 (n : Int)) (.int .u64 4294967296) = some (.int .u64 ((n / 4294967296 : Nat) : Int)) := by
  rw [bin_quo, if_neg (by decide)]
  rw [show ((n : Int).tdiv 4294967296) = ((n / 4294967296 : Nat) : Int) from rfl, wrap_u64 (by omega) (by omega)]
theorem rbody_loop {J : Jn (AEnd × H)} {k : Nat} (hJ : ref27_Body.F D k J) (l : List Change) (hl : l.length ≤ 512) (hok : l.all Change.ok = true) : ∀ (d i m : Nat) (acc : List UInt8) (h : H), i + d = l.length → d < m → acc.length + 500 * d ≤ 2 ^ 30 →
    ∃ h', ref27_Body.l0 J m (CL l) (BL acc (.own 1)) (.int .i64 i) h = some (.ret (BL (acc ++ (l.drop i).flatMap chB) (.own 1)), h')
  | 0, i, m + 1, acc, h, hi, _, hb => by
    rw [ref27_Body.l0_eq hJ, List.drop_of_length_le (by omega), List.flatMap_nil, List.append_nil]
    refine ⟨h, ?_⟩
    simp only [CL_len, lssN, decide_eq_false (show ¬ i < l.length by omega), bind_some', condV_false]
  | d + 1, i, m + 1, acc, h, hi, hm, hb => by
    have hil : i < l.length := by omega
    have hx : l[i].ok = true := List.all_eq_true.mp hok _ (List.getElem_mem hil)
    rw [ref27_Body.l0_eq hJ, List.drop_eq_getElem_cons hil, List.flatMap_cons]
    generalize hxx : l[i] = x at hx
    have hk := ok_kind hx
    have hn := ok_note hx
    have lc := chB_len hx
    have lt := tailB_len hx
    have l1 := lebB_10 (n := x.kind.toNat) (by omega)
    have tn := txB_len (s := x.entry.note) (by omega)
    obtain ⟨h', ih⟩ := rbody_loop hJ l hl hok d (i + 1) m (acc ++ chB x) ((h ++ [.arr x.c false]) ++ [.arr x.entry.c false]) (by omega) (by omega) (by simp; omega)
    refine ⟨h', ?_⟩
    obtain ⟨G, hG⟩ : ∃ G : H, G = (h ++ [AObj.arr x.c false]) ++ [.arr x.entry.c false] := ⟨_, rfl⟩
    rw [← hG] at ih
    have gx : G[h.length]? = some (.arr x.c false) := hG ▸ get_app get_new
    have ge : G[h.length + 1]? = some (.arr x.entry.c false) := by
      have := get_new (h := h ++ [AObj.arr x.c false]) (x := .arr x.entry.c false)
      rw [hG]; simpa using this
    have sl : slotOp h.length [.int .i64 0, .int .u64 0, .int .i64 0, .int .i64 0, .str [], .str [], .int .i64 0, .str [], .int .i64 0, .int .i64 0, .str []] (h ++ [AObj.arr [.int .i64 0, .int .u64 0, .int .i64 0, .int .i64 0, .str [], .str [], .int .i64 0, .str [], .int .i64 0, .int .i64 0, .str []] false]) = some (.ptr h.length 0) := by
      unfold slotOp
      rw [get_new]
      rfl
    have st1 : stN 11 ((h ++ [AObj.arr [.int .i64 0, .int .u64 0, .int .i64 0, .int .i64 0, .str [], .str [], .int .i64 0, .str [], .int .i64 0, .int .i64 0, .str []] false]) ++ [AObj.arr [.int .u64 0, .int .i64 0, .int .i64 0, .str [], .str [], .int .i64 0, .str [], .int .i64 0, .int .i64 0, .str []] false]) (.ptr h.length 0) (.agg x.c) = some (.undef, (h ++ [AObj.arr x.c false]) ++ [AObj.arr [.int .u64 0, .int .i64 0, .int .i64 0, .str [], .str [], .int .i64 0, .str [], .int .i64 0, .int .i64 0, .str []] false]) := by
      rw [st_agg (n := 11) (get_app get_new) (by rw [Change.c_len]; decide) x.c_len x.c_one]
      simp [List.set_append]
    have st2 : stN 10 ((h ++ [AObj.arr x.c false]) ++ [AObj.arr [.int .u64 0, .int .i64 0, .int .i64 0, .str [], .str [], .int .i64 0, .str [], .int .i64 0, .int .i64 0, .str []] false]) (.ptr (h.length + 1) 0) (.agg x.entry.c) = some (.undef, G) := by
      have g2 := get_new (h := h ++ [AObj.arr x.c false]) (x := AObj.arr [.int .u64 0, .int .i64 0, .int .i64 0, .str [], .str [], .int .i64 0, .str [], .int .i64 0, .int .i64 0, .str []] false)
      rw [show (h ++ [AObj.arr x.c false]).length = h.length + 1 by simp] at g2
      rw [st_agg (n := 10) g2 (by rw [Entry.c_len]; decide) x.entry.c_len x.entry.c_one, hG]
      simp [List.set_append]
    have ej3 : ∀ (b : Bool) (acc' : List UInt8), acc'.length ≤ 2 ^ 39 → ref27_Body.j3 J m (CL l) (BL acc' (.own 1)) (.int .i64 i) (.ptr (h.length + 1) 0) (.bool b) G = ref27_Body.l0 J m (CL l) (BL (acc' ++ if b then txB x.entry.note else []) (.own 1)) (.int .i64 ((i + 1 : Nat) : Int)) G := by
      intro b acc' ha
      rw [ref27_Body.j3_eq hJ]
      cases b with
      | true => simp only [condV_true, fAddr_ptr, bind_some', ld_at ge, Entry.c9, canon_str, rText_den x.entry.note (by omega), retOr_ret, apO (l := acc') (l' := txB x.entry.note) (o' := .own 1) (by omega), add1 i (by omega), if_true]
      | false => simp only [condV_false, bind_some', add1 i (by omega), Bool.false_eq_true, if_false, List.append_nil]
    have ej2 : ∀ acc' : List UInt8, acc'.length ≤ 2 ^ 39 → ref27_Body.j2 J m (CL l) (BL acc' (.own 1)) (.int .i64 i) (.ptr h.length 0) (.ptr (h.length + 1) 0) G = ref27_Body.l0 J m (CL l) (BL (acc' ++ if x.kind = 2 ∨ x.kind = 5 then txB x.entry.note else []) (.own 1)) (.int .i64 ((i + 1 : Nat) : Int)) G := by
      intro acc' ha
      rw [ref27_Body.j2_eq hJ]
      simp only [fAddr_ptr, bind_some', ld_at gx, Change.c0, bin_eql, ej3 _ acc' ha]
      by_cases h2 : x.kind = 2
      · simp only [decide_eq_true h2, condV_true, if_true, if_pos (show x.kind = 2 ∨ x.kind = 5 from .inl h2)]
      · by_cases h5 : x.kind = 5
        · simp only [decide_eq_false h2, decide_eq_true h5, condV_false, if_true, if_pos (show x.kind = 2 ∨ x.kind = 5 from .inr h5)]
        · simp only [decide_eq_false h2, decide_eq_false h5, condV_false, Bool.false_eq_true, if_false, if_neg (show ¬ (x.kind = 2 ∨ x.kind = 5) by omega)]
    have ej0 : ∀ acc' : List UInt8, acc'.length ≤ 2 ^ 38 → ref27_Body.j0 J m (CL l) (BL acc' (.own 1)) (.int .i64 i) (.ptr h.length 0) (.ptr (h.length + 1) 0) G = ref27_Body.l0 J m (CL l) (BL (acc' ++ ((if x.kind = 5 then stB x.entry else []) ++ (if x.kind = 2 ∨ x.kind = 5 then txB x.entry.note else []))) (.own 1)) (.int .i64 ((i + 1 : Nat) : Int)) G := by
      intro acc' ha
      rw [ref27_Body.j0_eq hJ]
      simp only [fAddr_ptr, bind_some', ld_at gx, Change.c0, bin_eql]
      by_cases h5 : x.kind = 5
      · have q : x.entry.ok = true := by
          rcases ok_cases hx with q | q | q | q
          · omega
          · omega
          · omega
          · exact q.2
        have q := Entry.ok_nums q
        have s1 := lebB_10 (n := x.entry.state.toNat) (by omega)
        have s2 := lebB_10 (n := x.entry.count.toNat) (by omega)
        simp only [decide_eq_true h5, condV_true, ld_at ge, Entry.c7, Entry.c8, bind_some', canon_int, rNumZ_den (show 0 ≤ x.entry.state by omega) (by omega), rNumZ_den (show 0 ≤ x.entry.count by omega) (by omega), retOr_ret, apO (l := acc') (l' := lebB x.entry.state.toNat) (o' := .own 1) (h := G) (by omega), apO (l := acc' ++ lebB x.entry.state.toNat) (l' := lebB x.entry.count.toNat) (o' := .own 1) (h := G) (by simp; omega), ej2 (acc' ++ lebB x.entry.state.toNat ++ lebB x.entry.count.toNat) (by simp; omega), if_pos h5]
        rw [show stB x.entry = lebB x.entry.state.toNat ++ lebB x.entry.count.toNat from rfl]
        simp only [List.append_assoc]
      · simp only [decide_eq_false h5, condV_false, ej2 acc' (by omega), if_neg h5, List.nil_append]
    have ej1 : ∀ (b : Bool) (acc' : List UInt8), acc'.length ≤ 2 ^ 37 → (b = true ↔ x.kind = 1 ∨ x.kind = 5) → ref27_Body.j1 J m (CL l) (BL acc' (.own 1)) (.int .i64 i) (.ptr h.length 0) (.ptr (h.length + 1) 0) (.bool b) G = ref27_Body.l0 J m (CL l) (BL (acc' ++ tailB x.kind x.entry) (.own 1)) (.int .i64 ((i + 1 : Nat) : Int)) G := by
      intro b acc' ha hb
      rw [ref27_Body.j1_eq hJ]
      unfold tailB
      cases b with
      | true =>
        have hb := hb.1 rfl
        have q : x.entry.alarm.ok = true := by
          rcases ok_cases hx with q | q | q | q
          · exact q.2.1
          · omega
          · omega
          · exact (Entry.ok_nums q.2).1
        have la := alB_len q
        simp only [condV_true, fAddr_ptr, bind_some', ldA_at ge, Entry.alarmAt, canon_agg, Alarm.c_canon, rAl_den _ q, retOr_ret, apO (l := acc') (l' := alB x.entry.alarm) (o' := .own 1) (h := G) (by omega), ej0 (acc' ++ alB x.entry.alarm) (by simp; omega), if_pos hb, List.append_assoc]
      | false =>
        have hb : ¬ (x.kind = 1 ∨ x.kind = 5) := fun h => Bool.noConfusion (hb.2 h)
        simp only [condV_false, ej0 acc' (by omega), if_neg hb, List.nil_append]
    have hf := x.entry.finger.isLt
    have q : x.entry.finger.val / 4294967296 % 4294967296 = x.entry.finger.val / 4294967296 := Nat.mod_eq_of_lt (by omega)
    have q' : x.entry.finger.val % 4294967296 % 4294967296 = x.entry.finger.val % 4294967296 := Nat.mod_mod _ _
    have w1 := rWord_den (x.entry.finger.val % 4294967296) (by omega) G
    have w2 := rWord_den (x.entry.finger.val / 4294967296) (by omega) G
    have a1 := apO (l := acc) (l' := lebB x.kind.toNat) (o' := .own 1) (h := G) (by omega)
    have a2 := apO (l := acc ++ lebB x.kind.toNat) (l' := wdB (x.entry.finger.val % 4294967296)) (o' := .cap) (h := G) (by simp [wdB]; omega)
    have a3 := apO (l := acc ++ lebB x.kind.toNat ++ wdB (x.entry.finger.val % 4294967296)) (l' := wdB (x.entry.finger.val / 4294967296)) (o' := .cap) (h := G) (by simp [wdB]; omega)
    simp only [CL_len, lssN, decide_eq_true hil, bind_some', condV_true, CL_at hil, hxx, fAddr_rptr, ldAgg_rptr, Change.agg, Change.entryAt, sl, copy_agg, Change.c_copy, Entry.c_copy, List.length_append, List.length_singleton, st1, eqO, eqb_self, whenB_true, st2, fAddr_ptr, ld_at gx, ld_at ge, Change.c0, Entry.c0, canon_int, rNumZ_den (show 0 ≤ x.kind by omega) (show x.kind ≤ 2 ^ 62 by omega), retOr_ret, a1, u64rem, u64quo _ hf, cv32, q, q', w1, w2, a2, a3, bin_eql]
    have fin : ∀ b : Bool, (b = true ↔ x.kind = 1 ∨ x.kind = 5) → ref27_Body.j1 J m (CL l) (BL (acc ++ lebB x.kind.toNat ++ wdB (x.entry.finger.val % 4294967296) ++ wdB (x.entry.finger.val / 4294967296)) (.own 1)) (.int .i64 i) (.ptr h.length 0) (.ptr (h.length + 1) 0) (.bool b) G = some (.ret (BL (acc ++ (chB x ++ (l.drop (i + 1)).flatMap chB)) (.own 1)), h') := by
      intro b hb
      rw [ej1 b _ (by simp [wdB]; omega) hb]
      have e : acc ++ lebB x.kind.toNat ++ wdB (x.entry.finger.val % 4294967296) ++ wdB (x.entry.finger.val / 4294967296) ++ tailB x.kind x.entry = acc ++ chB x := by simp [chB, fiB, List.append_assoc]
      rw [e, ih, List.append_assoc]
    by_cases h1 : x.kind = 1
    · simp only [decide_eq_true h1, condV_true]
      exact fin true ⟨fun _ => .inl h1, fun _ => rfl⟩
    · simp only [decide_eq_false h1, condV_false]
      exact fin _ (by rw [decide_eq_true_iff]; omega)
theorem rbody_den (l : List Change) (hb : batch l = true) (h : H) : D n_warrantorref27_Body [CL l] h = some (.ret (BL (bodyB l) (.own 1)), h) := by
  unfold batch at hb
  simp only [Bool.and_eq_true, decide_eq_true_eq] at hb
  have l10 := lebB_10 (n := l.length) (by omega)
  obtain ⟨h', e⟩ := rbody_loop (ref27_Body.fx (l.length + 1)) l hb.2.2 hb.1 l.length 0 (l.length + 1) (lebB l.length) [] (by omega) (by omega) (by omega)
  refine ref27_Body.den (l.length + 1) (by simp) (h' := h') ?_ (by simp [AV.pure]) rfl
  rw [ref27_Body.f_eq (ref27_Body.fx _)]
  simp only [CL_len, bind_some', canon_int, rNum_den l.length (by omega), retOr_ret]
  exact e
theorem rframe_den (b : List UInt8) (o : Own) (hb : b.length ≤ 2 ^ 30) (h : H) : D n_warrantorref27_Frame [BL b o] h = some (.ret (BL (frame b) (.own 1)), h) := by
  have tl := txB_len (s := b) (by omega)
  refine ref27_Frame.den 1 (by simp) (h' := []) ?_ (by simp [AV.pure]) rfl
  rw [ref27_Frame.f_eq (ref27_Frame.fx 1)]
  simp only [BL_toStr, bind_some', canon_str, rText_den b (by omega), retOr_ret, BL_canon, rSum_den _ _ (show (txB b).length ≤ 2 ^ 40 by omega), canon_int, rWord_den _ (BitVec.isLt _), apO (l := txB b) (l' := wdB (crcB (txB b)).toNat) (o' := .cap) (h := []) (by simp [wdB]; omega)]
  rfl
theorem rput_den (l : List Change) (hb : batch l = true) (h : H) : D n_warrantorref27_Put [CL l] h = some (.ret (BL (frame (bodyB l)) (.own 1)), h) := by
  have bl := bodyB_len hb
  refine ref27_Put.den 1 (by simp) (h' := []) ?_ (by simp [AV.pure]) rfl
  rw [ref27_Put.f_eq (ref27_Put.fx 1)]
  simp only [canon_list, rbody_den l hb, bind_some', retOr_ret, BL_canon, rframe_den _ _ (show (bodyB l).length ≤ 2 ^ 30 by omega)]
end Go.Proofs.YtdlnkfghgbddhaaGreat

open Go Go.Ve Go.Proofs
namespace Go.Proofs.YtdlnkfghgbddhaaGreat
set_option maxRecDepth 100000
set_option linter.all false
theorem rdW_lt (r : Rd) : (rdW r).1 < 2 ^ 32 := by
  unfold rdW
  split
  · exact Nat.two_pow_pos _
  · split
    · exact Nat.two_pow_pos _
    · exact wdN_lt _
def rdA (r : Rd) : Alarm × Rd :=
  (⟨(rdN 1048576 r).1, (rdN 1048576 (rdN 1048576 r).2).1, (rdT 1048576 (rdN 1048576 (rdN 1048576 r).2).2).1, (rdT 1048576 (rdT 1048576 (rdN 1048576 (rdN 1048576 r).2).2).2).1, (rdN 1048576 (rdT 1048576 (rdT 1048576 (rdN 1048576 (rdN 1048576 r).2).2).2).2).1, (rdT 1048576 (rdN 1048576 (rdT 1048576 (rdT 1048576 (rdN 1048576 (rdN 1048576 r).2).2).2).2).2).1⟩,
    (rdT 1048576 (rdN 1048576 (rdT 1048576 (rdT 1048576 (rdN 1048576 (rdN 1048576 r).2).2).2).2).2).2)
def rdS (r : Rd) : (Int × Int) × Rd := (((rdN 1048576 r).1, (rdN 1048576 (rdN 1048576 r).2).1), (rdN 1048576 (rdN 1048576 r).2).2)
def fing (a b : Rd) : Fin 18446744073709551616 := ⟨(rdW a).1 + 4294967296 * (rdW b).1, by have := rdW_lt a; have := rdW_lt b; omega⟩
def rdK (k : Int) (r : Rd) : (Alarm × (Int × Int) × List UInt8) × Rd :=
  let a := if k = 1 ∨ k = 5 then rdA r else (.none, r)
  let s := if k = 5 then rdS a.2 else ((0, 0), a.2)
  let n := if k = 2 ∨ k = 5 then rdT 1048576 s.2 else ([], s.2)
  ((a.1, s.1, n.1), n.2)
def rdCh (r : Rd) : Change × Rd :=
  let k := rdN 1048576 r
  let w := rdW k.2
  let z := rdK k.1 (rdW w.2).2
  (⟨k.1, fing k.2 w.2, z.1.1, z.1.2.1.1, z.1.2.1.2, z.1.2.2⟩, z.2)
def rdL : Nat → Rd → List Change × Rd
  | 0, r => ([], r)
  | n + 1, r => if r.e ≠ 0 then ([], r) else ((rdCh r).1 :: (rdL n (rdCh r).2).1, (rdL n (rdCh r).2).2)
def changesOf (b : List UInt8) : Option (List Change) :=
  let q := rdN 512 ⟨b, 0, 0⟩
  let l := rdL q.1 q.2
  if (rdE l.2).e = 0 ∧ batch l.1 = true ∧ bodyB l.1 = b then some l.1 else none
theorem takeNum_den {h : H} {id : Nat} {r : Rd} (hr : RdAt h id r) (hk : r.ok) : ∃ h', D n_rec_taker_num [.agg [.ptr id 0]] h = some (.ret (.int .i64 (rdN 1048576 r).1), h') ∧ Keep [id] h h' ∧ RdAt h' id (rdN 1048576 r).2 := by
  obtain ⟨G, hG⟩ : ∃ G, G = h ++ [AObj.arr [.ptr id 0] false] := ⟨_, rfl⟩
  have kG : Keep [] h G := hG ▸ Keep.app
  have g : G[h.length]? = some (.arr [.ptr id 0] false) := hG ▸ get_new
  obtain ⟨h', e, k, r'⟩ := cntR_den (m := 1048576) (kG.rd hr (by simp)) hk (by decide)
  refine ⟨h', rec_taker_num.den 1 ?_ rfl, kG.nil.trans k, r'⟩
  rw [rec_taker_num.f_eq (rec_taker_num.fx 1)]
  rw [show AV.copy (.agg [.ptr id 0]) = .agg [.ptr id 0] from rfl, bx_agg (cs := [.ptr id 0]) rfl]
  rw [show (((1048576 : Nat) : Int)) = 1048576 from rfl] at e
  simp only [bind_some', ← hG, fAddr_ptr, ld_at g, ptr0, canon_ptr, canon_int, e, retOr_ret]
theorem takeText_den {h : H} {id : Nat} {r : Rd} (hr : RdAt h id r) (hk : r.ok) : ∃ h', D n_rec_taker_text [.agg [.ptr id 0]] h = some (.ret (.str (rdT 1048576 r).1), h') ∧ Keep [id] h h' ∧ RdAt h' id (rdT 1048576 r).2 := by
  obtain ⟨G, hG⟩ : ∃ G, G = h ++ [AObj.arr [.ptr id 0] false] := ⟨_, rfl⟩
  have kG : Keep [] h G := hG ▸ Keep.app
  have g : G[h.length]? = some (.arr [.ptr id 0] false) := hG ▸ get_new
  obtain ⟨h', e, k, r'⟩ := textR_den (m := 1048576) (kG.rd hr (by simp)) hk (by decide)
  refine ⟨h', rec_taker_text.den 1 ?_ rfl, kG.nil.trans k, r'⟩
  rw [rec_taker_text.f_eq (rec_taker_text.fx 1)]
  rw [show AV.copy (.agg [.ptr id 0]) = .agg [.ptr id 0] from rfl, bx_agg (cs := [.ptr id 0]) rfl]
  rw [show (((1048576 : Nat) : Int)) = 1048576 from rfl] at e
  simp only [bind_some', ← hG, fAddr_ptr, ld_at g, ptr0, canon_ptr, canon_int, e, retOr_ret]
end Go.Proofs.YtdlnkfghgbddhaaGreat

open Go Go.Ve Go.Proofs
namespace Go.Proofs.YtdlnkfghgbddhaaGreat
set_option maxRecDepth 100000
set_option linter.all false
structure TS (id pi q : Nat) (r : Rd) (x : Change) (h : H) : Prop where
  p : h[pi]? = some (.arr [.ptr id 0] false)
  c : h[q]? = some (.arr x.c false)
  w : RdAt h id r
  ok : r.ok
  np : pi ≠ id
  nq : q ≠ id
  pq : pi ≠ q
theorem TS.read {id pi q : Nat} {r r' : Rd} {x : Change} {h h' : H} (s : TS id pi q r x h) (k : Keep [id] h h') (w : RdAt h' id r') (ok : r'.ok) : TS id pi q r' x h' :=
  ⟨k.get s.p (by simp; exact s.np), k.get s.c (by simp; exact s.nq), w, ok, s.np, s.nq, s.pq⟩
theorem TS.put {id pi q : Nat} {r : Rd} {x y : Change} {h : H} (s : TS id pi q r x h) : TS id pi q r y (h.set q (.arr y.c false)) :=
  have k : Keep [q] h (h.set q (.arr y.c false)) := .set (by simp)
  ⟨k.get s.p (by simp; exact s.pq), get_set s.c, k.rd s.w (by simp; exact fun e => s.nq e.symm), s.ok, s.np, s.nq, s.pq⟩
theorem ptr1 (id : Nat) : aggAt 1 [AV.ptr id 0] 0 = some (.agg [.ptr id 0]) := rfl
theorem canonP (id : Nat) : AV.canon (.agg [.ptr id 0]) = .agg [.ptr id 0] := rfl
theorem TS.start {id pi q : Nat} {r : Rd} {x : Change} {h : H} (s : TS id pi q r x h) : TS id h.length q r x (h ++ [.arr [.ptr id 0] false]) ∧ Keep [] h (h ++ [.arr [.ptr id 0] false]) := by
  have k : Keep [] h (h ++ [.arr [.ptr id 0] false]) := .app
  have l1 := s.w.lt
  have l2 := get_lt s.c
  exact ⟨⟨get_new, k.get s.c (by simp), k.rd s.w (by simp), s.ok, by omega, s.nq, by omega⟩, k⟩
theorem TS.num {id pi q : Nat} {r : Rd} {x : Change} {h : H} (s : TS id pi q r x h) : ∃ h', D n_rec_taker_num [.agg [.ptr id 0]] h = some (.ret (.int .i64 (rdN 1048576 r).1), h') ∧ Keep [id] h h' ∧ TS id pi q (rdN 1048576 r).2 x h' := by
  obtain ⟨h', e, k, w⟩ := takeNum_den s.w s.ok
  exact ⟨h', e, k, s.read k w (rdN_ok s.ok).1⟩
theorem TS.text {id pi q : Nat} {r : Rd} {x : Change} {h : H} (s : TS id pi q r x h) : ∃ h', D n_rec_taker_text [.agg [.ptr id 0]] h = some (.ret (.str (rdT 1048576 r).1), h') ∧ Keep [id] h h' ∧ TS id pi q (rdT 1048576 r).2 x h' := by
  obtain ⟨h', e, k, w⟩ := takeText_den s.w s.ok
  exact ⟨h', e, k, s.read k w (rdT_ok s.ok).1⟩
theorem TS.setI {id pi q : Nat} {r : Rd} {x : Change} {h : H} (s : TS id pi q r x h) (y : Change) (off : Nat) (z : Int) (ho : off < 11) (hy : x.c.set off (.int .i64 z) = y.c) : stN 1 h (.ptr q off) (.int .i64 z) = some (.undef, h.set q (.arr y.c false)) := by
  rw [st_int s.c (by rw [Change.c_len]; exact ho), hy]
theorem TS.setS {id pi q : Nat} {r : Rd} {x : Change} {h : H} (s : TS id pi q r x h) (y : Change) (off : Nat) (z : List UInt8) (ho : off < 11) (hy : x.c.set off (.str z) = y.c) : stN 1 h (.ptr q off) (.str z) = some (.undef, h.set q (.arr y.c false)) := by
  rw [st_str s.c (by rw [Change.c_len]; exact ho), hy]
theorem keepQ {id q : Nat} {h : H} {o : AObj} : Keep [id, q] h (h.set q o) := .set (by simp)
theorem keepI {id q : Nat} {h h' : H} (k : Keep [id] h h') : Keep [id, q] h h' := k.mono (by simp)
theorem takeNote_den {id pi q : Nat} {r : Rd} {x : Change} {h : H} (s : TS id pi q r x h) : ∃ h', D n_rec_taker_note [.agg [.ptr id 0], .ptr q 1] h = some (.ret (.tuple []), h') ∧ Keep [id, q] h h' ∧ TS id pi q (rdT 1048576 r).2 { x with entry := { x.entry with note := (rdT 1048576 r).1 } } h' := by
  obtain ⟨s0, k0⟩ := s.start
  obtain ⟨G, hG⟩ : ∃ G, G = h ++ [AObj.arr [.ptr id 0] false] := ⟨_, rfl⟩
  rw [← hG] at s0 k0
  obtain ⟨h1, e1, k1, s1⟩ := s0.text
  have t1 := s1.setS { x with entry := { x.entry with note := (rdT 1048576 r).1 } } 10 (rdT 1048576 r).1 (by decide) rfl
  have kk := k0.nil.trans (keepI (q := q) k1)
  have s2 := s1.put (y := { x with entry := { x.entry with note := (rdT 1048576 r).1 } })
  refine ⟨_, rec_taker_note.den 1 ?_ rfl, kk.trans keepQ, ⟨?_, s2.c, s2.w, s2.ok, s.np, s.nq, s.pq⟩⟩
  · rw [rec_taker_note.f_eq (rec_taker_note.fx 1)]
    rw [show AV.copy (.agg [.ptr id 0]) = .agg [.ptr id 0] from rfl, bx_agg (cs := [.ptr id 0]) rfl]
    simp only [bind_some', ← hG, ldA_at s0.p, ptr1, canonP, e1, retOr_ret, nilOk_ptr, fAddr_ptr]
    rw [show 1 + 9 = 10 from rfl, t1]
    rfl
  · exact (kk.trans keepQ).get s.p (by simp only [List.mem_cons, List.not_mem_nil, or_false, not_or]; exact ⟨s.np, s.pq⟩)
theorem takeStand_den {id pi q : Nat} {r : Rd} {x : Change} {h : H} (s : TS id pi q r x h) : ∃ h', D n_rec_taker_stand [.agg [.ptr id 0], .ptr q 1] h = some (.ret (.tuple []), h') ∧ Keep [id, q] h h' ∧ TS id pi q (rdS r).2 { x with entry := { x.entry with state := (rdS r).1.1, count := (rdS r).1.2 } } h' := by
  obtain ⟨s0, k0⟩ := s.start
  obtain ⟨G, hG⟩ : ∃ G, G = h ++ [AObj.arr [.ptr id 0] false] := ⟨_, rfl⟩
  rw [← hG] at s0 k0
  obtain ⟨x1, hx1⟩ : ∃ x1 : Change, x1 = { x with entry := { x.entry with state := (rdN 1048576 r).1 } } := ⟨_, rfl⟩
  obtain ⟨x2, hx2⟩ : ∃ x2 : Change, x2 = { x1 with entry := { x1.entry with count := (rdN 1048576 (rdN 1048576 r).2).1 } } := ⟨_, rfl⟩
  obtain ⟨h1, e1, k1, s1⟩ := s0.num
  have t1 := s1.setI x1 8 (rdN 1048576 r).1 (by decide) (by rw [hx1]; rfl)
  have s2 := s1.put (y := x1)
  obtain ⟨h3, e3, k3, s3⟩ := s2.num
  have t3 := s3.setI x2 9 (rdN 1048576 (rdN 1048576 r).2).1 (by decide) (by rw [hx2]; rfl)
  have s4 := s3.put (y := x2)
  have kk : Keep [id, q] h (h3.set q (.arr x2.c false)) := k0.nil.trans ((keepI k1).trans (keepQ.trans ((keepI k3).trans keepQ)))
  have ex : x2 = { x with entry := { x.entry with state := (rdS r).1.1, count := (rdS r).1.2 } } := by rw [hx2, hx1]; rfl
  rw [← ex]
  refine ⟨_, rec_taker_stand.den 1 ?_ rfl, kk, ⟨kk.get s.p (by simp only [List.mem_cons, List.not_mem_nil, or_false, not_or]; exact ⟨s.np, s.pq⟩), s4.c, s4.w, s4.ok, s.np, s.nq, s.pq⟩⟩
  rw [rec_taker_stand.f_eq (rec_taker_stand.fx 1)]
  rw [show AV.copy (.agg [.ptr id 0]) = .agg [.ptr id 0] from rfl, bx_agg (cs := [.ptr id 0]) rfl]
  simp only [bind_some', ← hG, ldA_at s0.p, ptr1, canonP, e1, retOr_ret, nilOk_ptr, fAddr_ptr, show 1 + 7 = 8 from rfl, show 1 + 8 = 9 from rfl, t1, ldA_at s2.p, e3, t3]
theorem takeAlarm_den {id pi q : Nat} {r : Rd} {x : Change} {h : H} (s : TS id pi q r x h) : ∃ h', D n_rec_taker_alarm [.agg [.ptr id 0], .ptr q 1] h = some (.ret (.tuple []), h') ∧ Keep [id, q] h h' ∧ TS id pi q (rdA r).2 { x with entry := { x.entry with alarm := (rdA r).1 } } h' := by
  obtain ⟨s0, k0⟩ := s.start
  obtain ⟨G, hG⟩ : ∃ G, G = h ++ [AObj.arr [.ptr id 0] false] := ⟨_, rfl⟩
  rw [← hG] at s0 k0
  obtain ⟨h1, e1, k1, s1⟩ := s0.num
  obtain ⟨x1, hx1⟩ : ∃ x1 : Change, x1 = { x with entry := { x.entry with alarm := { x.entry.alarm with kind := (rdN 1048576 r).1 } } } := ⟨_, rfl⟩
  have t1 := s1.setI x1 2 (rdN 1048576 r).1 (by decide) (by rw [hx1]; rfl)
  have p1 := s1.put (y := x1)
  obtain ⟨h2, e2, k2, s2⟩ := p1.num
  generalize hr2 : (rdN 1048576 r).2 = r2 at *
  obtain ⟨x2, hx2⟩ : ∃ x2 : Change, x2 = { x1 with entry := { x1.entry with alarm := { x1.entry.alarm with sev := (rdN 1048576 r2).1 } } } := ⟨_, rfl⟩
  have t2 := s2.setI x2 3 (rdN 1048576 r2).1 (by decide) (by rw [hx2]; rfl)
  have p2 := s2.put (y := x2)
  obtain ⟨h3, e3, k3, s3⟩ := p2.text
  generalize hr3 : (rdN 1048576 r2).2 = r3 at *
  obtain ⟨x3, hx3⟩ : ∃ x3 : Change, x3 = { x2 with entry := { x2.entry with alarm := { x2.entry.alarm with func := (rdT 1048576 r3).1 } } } := ⟨_, rfl⟩
  have t3 := s3.setS x3 4 (rdT 1048576 r3).1 (by decide) (by rw [hx3]; rfl)
  have p3 := s3.put (y := x3)
  obtain ⟨h4, e4, k4, s4⟩ := p3.text
  generalize hr4 : (rdT 1048576 r3).2 = r4 at *
  obtain ⟨x4, hx4⟩ : ∃ x4 : Change, x4 = { x3 with entry := { x3.entry with alarm := { x3.entry.alarm with file := (rdT 1048576 r4).1 } } } := ⟨_, rfl⟩
  have t4 := s4.setS x4 5 (rdT 1048576 r4).1 (by decide) (by rw [hx4]; rfl)
  have p4 := s4.put (y := x4)
  obtain ⟨h5, e5, k5, s5⟩ := p4.num
  generalize hr5 : (rdT 1048576 r4).2 = r5 at *
  obtain ⟨x5, hx5⟩ : ∃ x5 : Change, x5 = { x4 with entry := { x4.entry with alarm := { x4.entry.alarm with line := (rdN 1048576 r5).1 } } } := ⟨_, rfl⟩
  have t5 := s5.setI x5 6 (rdN 1048576 r5).1 (by decide) (by rw [hx5]; rfl)
  have p5 := s5.put (y := x5)
  obtain ⟨h6, e6, k6, s6⟩ := p5.text
  generalize hr6 : (rdN 1048576 r5).2 = r6 at *
  obtain ⟨x6, hx6⟩ : ∃ x6 : Change, x6 = { x5 with entry := { x5.entry with alarm := { x5.entry.alarm with expr := (rdT 1048576 r6).1 } } } := ⟨_, rfl⟩
  have t6 := s6.setS x6 7 (rdT 1048576 r6).1 (by decide) (by rw [hx6]; rfl)
  have p6 := s6.put (y := x6)
  have kk : Keep [id, q] h (h6.set q (.arr x6.c false)) := k0.nil.trans ((keepI k1).trans (keepQ.trans ((keepI k2).trans (keepQ.trans ((keepI k3).trans (keepQ.trans ((keepI k4).trans (keepQ.trans ((keepI k5).trans (keepQ.trans ((keepI k6).trans keepQ)))))))))))
  have ea : rdA r = (⟨(rdN 1048576 r).1, (rdN 1048576 r2).1, (rdT 1048576 r3).1, (rdT 1048576 r4).1, (rdN 1048576 r5).1, (rdT 1048576 r6).1⟩, (rdT 1048576 r6).2) := by
    unfold rdA
    rw [hr2, hr3, hr4, hr5, hr6]
  have ex : x6 = { x with entry := { x.entry with alarm := (rdA r).1 } } := by rw [ea, hx6, hx5, hx4, hx3, hx2, hx1]
  rw [← ex, ea]
  refine ⟨_, rec_taker_alarm.den 1 ?_ rfl, kk, ⟨kk.get s.p (by simp only [List.mem_cons, List.not_mem_nil, or_false, not_or]; exact ⟨s.np, s.pq⟩), p6.c, p6.w, p6.ok, s.np, s.nq, s.pq⟩⟩
  rw [rec_taker_alarm.f_eq (rec_taker_alarm.fx 1)]
  rw [show AV.copy (.agg [.ptr id 0]) = .agg [.ptr id 0] from rfl, bx_agg (cs := [.ptr id 0]) rfl]
  simp only [bind_some', ← hG, ldA_at s0.p, ptr1, canonP, e1, retOr_ret, nilOk_ptr, fAddr_ptr, show 1 + 1 + 0 = 2 from rfl, show 1 + 1 + 1 = 3 from rfl, show 1 + 1 + 2 = 4 from rfl, show 1 + 1 + 3 = 5 from rfl, show 1 + 1 + 4 = 6 from rfl, show 1 + 1 + 5 = 7 from rfl, t1, ldA_at p1.p, e2, t2, ldA_at p2.p, e3, t3, ldA_at p3.p, e4, t4, ldA_at p4.p, e5, t5, ldA_at p5.p, e6, t6]
end Go.Proofs.YtdlnkfghgbddhaaGreat

open Go Go.Ve Go.Proofs
namespace Go.Proofs.YtdlnkfghgbddhaaGreat
set_option maxRecDepth 100000
set_option linter.all false
theorem den_pan0 {P : Program} {pol : Pol} {f : FuncId} {fn : Func} {c : Code} {args : List AV} {v : AV} {h h' : H} (hx : pol.ext f = none) (hf : P.funcs[f]? = some fn) (hb : fn.body = some c) (hm : pol.mode f = 0) (hok : (resOk fn && Nat.ble args.length fn.ntmps && (pol.ann f).1.q.all pol.still) = true) (n : Nat) (hp : pureL args = true)
    (he : body P (pol.ann f).1 (den P pol) fn (pol.ann f).2 n c args [] = some (.pan v, h')) (hw : v.pure = true) (hro : retOk fn (.pan v) = true) : den P pol f args h = some (.pan v, h) := by
  refine den_pure hx hf hb hm hok n ?_
  unfold retChk pureCall
  rw [mapM_pure hp]
  simp only [hp, if_true, he]
  rw [freeze_pure hw]
  simp only [Option.bind_some, hw, Bool.true_or, Bool.and_true, if_true, hro]
abbrev brkR : AV := .iface t_rec_broken (.agg [])
theorem must_den (b : Bool) (h : H) : D n_rec_must [.bool b] h = some (if b then .ret (.tuple []) else .pan brkR, h) := by
  cases b with
  | true =>
    refine rec_must.den 1 rfl (h' := []) ?_ rfl rfl
    rw [rec_must.f_eq (rec_must.fx 1)]
    rfl
  | false =>
    refine den_pan0 (fn := Tryz.f149) (c := rec_must.c) (h' := []) (by kernel_rfl) Tryz.func149 (by kernel_rfl) (by kernel_rfl) (by kernel_rfl) 1 rfl ?_ rfl rfl
    rw [show (pol.ann n_rec_must).1 = rec_must.A by kernel_rfl, show (pol.ann n_rec_must).2 = rec_must.an by kernel_rfl, body_real _ _ (by kernel_rfl)]
    have : rec_must.f (rec_must.JD 1) (.bool false) [] = some (.pan brkR, []) := by
      rw [rec_must.f_eq (rec_must.fx 1)]
      rfl
    exact this
end Go.Proofs.YtdlnkfghgbddhaaGreat

open Go Go.Ve Go.Proofs
namespace Go.Proofs.YtdlnkfghgbddhaaGreat
set_option maxRecDepth 100000
set_option linter.all false
theorem get_step {J : Jn (AEnd × H)} {k : Nat} (hJ : rec_changes.F D k J) {m0 m1 id pi q i f n : Nat} {r : Rd} {x : Change} {A B C E V : AV} {h h' : H} (s : TS id pi q r x h) (hi : i < n) (hn : n < 100) (hx : ixSlice 1 V (.int .i64 i) = some (.rptr [Fn1 f] 0)) (e : D f [.agg [.ptr id 0], .ptr q 1] h = some (.ret (.tuple []), h')) :
    rec_changes.l1 J m0 (m1 + 1) A (.ptr pi 0) B (.ptr q 0) C E V (.int .i64 n) (.int .i64 i) h = rec_changes.l1 J m0 m1 A (.ptr pi 0) B (.ptr q 0) C E V (.int .i64 n) (.int .i64 ((i + 1 : Nat) : Int)) h' := by
  rw [rec_changes.l1_eq hJ]
  simp only [lssN, decide_eq_true hi, bind_some', condV_true, hx, ldCell_rptr]
  rw [show ([Fn1 f])[0]? = some (Fn1 f) from rfl]
  simp only [bind_some', ldA_at s.p, ptr1, canonP, fAddr_ptr, canon_ptr]
  rw [show ∀ a h, callVal D h (Fn1 f) a = D f a h from fun a h => by simp [callVal], e]
  simp only [bind_some', retOr_ret, add1 i (by omega)]
theorem gets_den {J : Jn (AEnd × H)} {k : Nat} (hJ : rec_changes.F D k J) {m0 m1 id pi q z : Nat} {r : Rd} {kd : Int} {f : Fin 18446744073709551616} {A B C E : AV} {h : H} (s : TS id pi q r ⟨kd, f, .none, 0, 0, []⟩ h) :
    ∃ V n m2 h', (kindOf z kd)[1]? = some V ∧ lnSl V = some (.int .i64 (n : Nat)) ∧ 0 < m2 ∧ rec_changes.l1 J m0 (m1 + 4) A (.ptr pi 0) B (.ptr q 0) C E V (.int .i64 n) (.int .i64 0) h = rec_changes.l1 J m0 m2 A (.ptr pi 0) B (.ptr q 0) C E V (.int .i64 n) (.int .i64 n) h' ∧ Keep [id, q] h h' ∧ TS id pi q (rdK kd r).2 ⟨kd, f, (rdK kd r).1.1, (rdK kd r).1.2.1.1, (rdK kd r).1.2.1.2, (rdK kd r).1.2.2⟩ h' := by
  rw [show (.int .i64 0 : AV) = .int .i64 ((0 : Nat) : Int) from rfl]
  by_cases h1 : kd = 1
  · have e : kindOf z kd = K1 z := by unfold kindOf; rw [if_pos h1]
    have er : rdK kd r = (((rdA r).1, (0, 0), []), (rdA r).2) := by
      unfold rdK
      simp only [if_pos (show kd = 1 ∨ kd = 5 from .inl h1), if_neg (show ¬ kd = 5 by omega), if_neg (show ¬ (kd = 2 ∨ kd = 5) by omega)]
    obtain ⟨g1, e1, k1, s1⟩ := takeAlarm_den s
    rw [e, er]
    exact ⟨_, 1, m1 + 3, g1, rfl, rfl, by omega, get_step hJ s (i := 0) (n := 1) (by omega) (by omega) (f := n_rec_taker_alarm) rfl e1, k1, s1⟩
  by_cases h2 : kd = 2
  · have e : kindOf z kd = K2 z := by unfold kindOf; rw [if_neg h1, if_pos h2]
    have er : rdK kd r = ((.none, (0, 0), (rdT 1048576 r).1), (rdT 1048576 r).2) := by
      unfold rdK
      simp only [if_neg (show ¬ (kd = 1 ∨ kd = 5) by omega), if_neg (show ¬ kd = 5 by omega), if_pos (show kd = 2 ∨ kd = 5 from .inl h2)]
    obtain ⟨g1, e1, k1, s1⟩ := takeNote_den s
    rw [e, er]
    exact ⟨_, 1, m1 + 3, g1, rfl, rfl, by omega, get_step hJ s (i := 0) (n := 1) (by omega) (by omega) (f := n_rec_taker_note) rfl e1, k1, s1⟩
  by_cases h5 : kd = 5
  · have e : kindOf z kd = K5 := by unfold kindOf; rw [if_neg h1, if_neg h2, if_neg (by omega), if_neg (by omega), if_pos h5]
    have er : rdK kd r = (((rdA r).1, (rdS (rdA r).2).1, (rdT 1048576 (rdS (rdA r).2).2).1), (rdT 1048576 (rdS (rdA r).2).2).2) := by
      unfold rdK
      simp only [if_pos (show kd = 1 ∨ kd = 5 from .inr h5), if_pos h5, if_pos (show kd = 2 ∨ kd = 5 from .inr h5)]
    obtain ⟨g1, e1, k1, s1⟩ := takeAlarm_den s
    rw [e, er]
    generalize rdA r = a at s1 ⊢
    obtain ⟨g2, e2, k2, s2⟩ := takeStand_den s1
    generalize rdS a.2 = b at s2 ⊢
    obtain ⟨g3, e3, k3, s3⟩ := takeNote_den s2
    generalize rdT 1048576 b.2 = c at s3 ⊢
    simp only at s1 s2 s3 ⊢
    exact ⟨_, 3, m1 + 1, g3, rfl, rfl, by omega, (get_step hJ s (i := 0) (n := 3) (by omega) (by omega) (f := n_rec_taker_alarm) rfl e1).trans ((get_step hJ s1 (i := 1) (n := 3) (by omega) (by omega) (f := n_rec_taker_stand) rfl e2).trans (get_step hJ s2 (i := 2) (n := 3) (by omega) (by omega) (f := n_rec_taker_note) rfl e3)), k1.trans (k2.trans k3), s3⟩
  · have er : rdK kd r = ((.none, (0, 0), []), r) := by
      unfold rdK
      simp only [if_neg (show ¬ (kd = 1 ∨ kd = 5) by omega), if_neg h5, if_neg (show ¬ (kd = 2 ∨ kd = 5) by omega)]
    have e : (kindOf z kd)[1]? = some (.list [] .cap) := by
      unfold kindOf
      rw [if_neg h1, if_neg h2]
      split
      · rfl
      split
      · rfl
      · rfl
    rw [er]
    exact ⟨_, 0, m1 + 4, h, e, rfl, by omega, rfl, .refl _ _, s⟩
end Go.Proofs.YtdlnkfghgbddhaaGreat

open Go Go.Ve Go.Proofs
namespace Go.Proofs.YtdlnkfghgbddhaaGreat
set_option maxRecDepth 100000
set_option linter.all false
theorem eqB_loop {J : Jn (AEnd × H)} {k : Nat} (hJ : slices_Equal_byte_byte.F D k J) (l l' : List UInt8) (he : l.length = l'.length) (hl : l.length ≤ 2 ^ 50) (h : H) : ∀ (d i m : Nat), i + d = l.length → d < m →
    slices_Equal_byte_byte.l0 J m (BL l) (BL l') (.int .i64 l.length) (.int .i64 i) h = some (.ret (.bool (decide (l.drop i = l'.drop i))), h)
  | 0, i, m + 1, hi, _ => by
    rw [slices_Equal_byte_byte.l0_eq hJ]
    simp only [bind_some', lssN, decide_eq_false (show ¬ i < l.length by omega), condV_false]
    rw [List.drop_of_length_le (by omega), List.drop_of_length_le (by omega)]
    rfl
  | d + 1, i, m + 1, hi, hm => by
    have hil : i < l.length := by omega
    have hil' : i < l'.length := by omega
    have ih := eqB_loop hJ l l' he hl h d (i + 1) m (by omega) (by omega)
    rw [slices_Equal_byte_byte.l0_eq hJ, List.drop_eq_getElem_cons hil, List.drop_eq_getElem_cons hil']
    simp only [bind_some', lssN, decide_eq_true hil, condV_true, BL_at hil, BL_at hil', ldCell_rptr, byteRow_0, neqN, add1 i (by omega), ih, List.cons.injEq]
    by_cases hx : l[i] = l'[i]
    · simp only [hx, decide_true, Bool.not_true, condV_false, true_and]
    · have : ¬ l[i].toNat = l'[i].toNat := fun h => hx (UInt8.toNat.inj h)
      simp only [decide_eq_false this, Bool.not_false, condV_true, hx, false_and, decide_false]
theorem eqB_den (l l' : List UInt8) (hl : l.length ≤ 2 ^ 50) (h : H) : D n_slices_Equal_byte_byte [BL l, BL l'] h = some (.ret (.bool (decide (l = l'))), h) := by
  refine slices_Equal_byte_byte.den (l.length + 1) (by simp) (h' := []) ?_ rfl rfl
  rw [slices_Equal_byte_byte.f_eq (slices_Equal_byte_byte.fx _)]
  simp only [BL_len, bind_some', neqN]
  by_cases he : l.length = l'.length
  · simp only [decide_eq_true he, Bool.not_true, condV_false]
    exact eqB_loop (slices_Equal_byte_byte.fx _) l l' he hl [] l.length 0 (l.length + 1) (by omega) (by omega)
  · simp only [decide_eq_false he, Bool.not_false, condV_true]
    rw [decide_eq_false (fun h => he (by rw [h]))]
def chRes (b : List UInt8) (l : List Change) (r : Rd) : AEnd := if (rdE r).e = 0 ∧ batch l = true ∧ bodyB l = b then .ret (CL l) else .pan brkR
theorem changes_end {J : Jn (AEnd × H)} {k : Nat} (hJ : rec_changes.F D k J) {m id pi n : Nat} {b : List UInt8} {r : Rd} {l : List Change} {o : Own} {h : H} (hp : h[pi]? = some (.arr [.ptr id 0] false)) (w : RdAt h id r) (hk : r.ok) (hne : pi ≠ id) (hl : l.length ≤ 2 ^ 50) :
    ∃ h' o', rec_changes.l0 J (m + 1) (BL b) (.ptr pi 0) (CL l o) (.int .i64 n) (.int .i64 n) h = some (match chRes b l r with | .ret _ => .ret (CL l o') | .pan v => .pan v, h') := by
  obtain ⟨h1, e1, k1, w1⟩ := endR_den w hk
  have p1 := k1.get hp (by simp; exact hne)
  have e2 := errR_den w1
  refine ⟨h1, o, ?_⟩
  rw [rec_changes.l0_eq hJ]
  simp only [lssN, decide_eq_false (show ¬ n < n by omega), bind_some', condV_false, fAddr_ptr, ld_at hp, ptr0, canon_ptr, e1, retOr_ret, ld_at p1, e2, bin_eql]
  unfold chRes
  by_cases he : (rdE r).e = 0
  · simp only [decide_eq_true (show (((rdE r).e : Int) = 0) by omega), condV_true, canon_list, batch_den l hl, bind_some', retOr_ret]
    cases hb : batch l with
    | false =>
      simp only [condV_false, canon_bool, must_den, bind_some', Bool.false_eq_true, if_false, retOr_pan, false_and, and_false]
    | true =>
      have bl := bodyB_len hb
      simp only [condV_true, body_den l hb, bind_some', retOr_ret, BL_canon, eqB_den _ b (show (bodyB l).length ≤ 2 ^ 50 by omega), canon_bool, must_den]
      by_cases hx : bodyB l = b
      · simp only [decide_eq_true hx, if_true, retOr_ret, if_pos (show (rdE r).e = 0 ∧ True ∧ bodyB l = b from ⟨he, trivial, hx⟩)]
      · simp only [decide_eq_false hx, Bool.false_eq_true, if_false, retOr_pan, if_neg (show ¬ ((rdE r).e = 0 ∧ True ∧ bodyB l = b) from fun h => hx h.2.2)]
  · simp only [decide_eq_false (show ¬ (((rdE r).e : Int) = 0) by omega), condV_false, canon_bool, must_den, bind_some', Bool.false_eq_true, if_false, retOr_pan, if_neg (show ¬ ((rdE r).e = 0 ∧ batch l = true ∧ bodyB l = b) from fun h => he h.1)]
end Go.Proofs.YtdlnkfghgbddhaaGreat

open Go Go.Ve Go.Proofs
namespace Go.Proofs.YtdlnkfghgbddhaaGreat
set_option maxRecDepth 100000
set_option linter.all false
theorem u64_u32 (n : Nat) (h : n < 2 ^ 32) : cvInt .u64 (.int .u32 (n : Int)) = some (.int .u64 (n : Int)) := by
  rw [cvInt_int, wrap_u64 (by omega) (by omega)]
theorem rdL_bad {r : Rd} (h : r.e ≠ 0) (d : Nat) : rdL d r = ([], r) := by
  cases d with
  | zero => rfl
  | succ d => unfold rdL; rw [if_pos h]
theorem chRes_bad {b : List UInt8} {l : List Change} {r : Rd} (h : r.e ≠ 0) : chRes b l r = .pan brkR := by
  unfold chRes rdE
  rw [if_neg (show ¬ (r.e = 0 ∧ r.p < r.b.length) from fun h' => h h'.1), if_neg (fun h' => h h'.1)]
theorem CL_ap {l : List Change} {x : Change} {o o' : Own} {h : H} (ho : mayApp o 11 true = true) (hl : l.length ≤ 2 ^ 30) : apSlice 11 120 false true h (CL l o) (CL [x] o') = some (CL (l ++ [x]) (.own 11)) := by
  have := ap_map (l := l) (l' := [x]) (f := Change.c) (o := o) (o' := o') (s := 11) (bytes := 120) (byte := false) (owned := true) (h := h) ho (by decide) Change.c_len (by simp; omega) (by simp; omega)
  show apSlice 11 120 false true h (.list (l.map Change.c) o) (.list ([x].map Change.c) o') = some (.list ((l ++ [x]).map Change.c) (.own 11))
  exact this
theorem changes_loop {J : Jn (AEnd × H)} {k : Nat} (hJ : rec_changes.F D (k + 4) J) (id pi : Nat) (hne : pi ≠ id) (b : List UInt8) (n : Nat) (hn : n ≤ 512) : ∀ (d i m : Nat) (acc : List Change) (o : Own) (r : Rd) (h : H), i + d = n → d < m → (d = 0 ∨ r.e = 0) → mayApp o 11 true = true → acc.length = i → h[pi]? = some (.arr [.ptr id 0] false) → RdAt h id r → r.ok →
    ∃ h' o', rec_changes.l0 J m (BL b) (.ptr pi 0) (CL acc o) (.int .i64 n) (.int .i64 i) h = some (match chRes b (acc ++ (rdL d r).1) (rdL d r).2 with | .ret _ => .ret (CL (acc ++ (rdL d r).1) o') | .pan v => .pan v, h')
  | 0, i, m + 1, acc, o, r, h, hi, _, _, ho, ha, hp, w, hk => by
    have : i = n := by omega
    subst this
    unfold rdL
    rw [List.append_nil]
    exact changes_end hJ hp w hk hne (by omega)
  | d + 1, i, m + 1, acc, o, r, h, hi, hm, h0, ho, ha, hp, w, hk => by
    have he : r.e = 0 := by omega
    rw [rec_changes.l0_eq hJ]
    obtain ⟨h1, e1, k1, w1⟩ := takeNum_den w hk
    have hk1 := (rdN_ok (m := 1048576) hk).1
    have p1 := k1.get hp (by simp; exact hne)
    obtain ⟨h2, hh2⟩ : ∃ g : H, g = h1 ++ [AObj.arr (⟨(rdN 1048576 r).1, 0, .none, 0, 0, []⟩ : Change).c false] := ⟨_, rfl⟩
    have k2 : Keep [] h1 h2 := hh2 ▸ Keep.app
    have c2 : h2[h1.length]? = some (.arr (⟨(rdN 1048576 r).1, 0, .none, 0, 0, []⟩ : Change).c false) := hh2 ▸ get_new
    have st : stN 11 (h1 ++ [AObj.arr [.int .i64 0, .int .u64 0, .int .i64 0, .int .i64 0, .str [], .str [], .int .i64 0, .str [], .int .i64 0, .int .i64 0, .str []] false]) (.ptr h1.length 0) (.agg (⟨(rdN 1048576 r).1, 0, .none, 0, 0, []⟩ : Change).c) = some (.undef, h2) := by
      rw [st_agg (n := 11) get_new (by rw [Change.c_len]; decide) (Change.c_len _) (Change.c_one _), set_new, hh2]
      simp
    have l1 := w1.lt
    have l2 := get_lt p1
    have s2 : TS id pi h1.length (rdN 1048576 r).2 ⟨(rdN 1048576 r).1, 0, .none, 0, 0, []⟩ h2 := ⟨k2.get p1 (by simp), c2, k2.rd w1 (by simp), hk1, hne, by omega, by omega⟩
    obtain ⟨h3, e3, k3, w3⟩ := wordR_den s2.w s2.ok
    have s3 := s2.read k3 w3 (rdW_ok s2.ok).1
    have q1 := rdW_lt (rdN 1048576 r).2
    generalize hx4 : (⟨(rdN 1048576 r).1, ⟨(rdW (rdN 1048576 r).2).1, by omega⟩, .none, 0, 0, []⟩ : Change) = x4
    have t3 : stN 1 h3 (.ptr h1.length 1) (.int .u64 (rdW (rdN 1048576 r).2).1) = some (.undef, h3.set h1.length (.arr x4.c false)) := by
      rw [st_int s3.c (by rw [Change.c_len]; decide), ← hx4]; rfl
    have s4 := s3.put (y := x4)
    have c4 : x4.c[1]? = some (.int .u64 (rdW (rdN 1048576 r).2).1) := by rw [← hx4]; rfl
    obtain ⟨h5, e5, k5, w5⟩ := wordR_den s4.w s4.ok
    have s5 := s4.read k5 w5 (rdW_ok s4.ok).1
    have q2 := rdW_lt (rdW (rdN 1048576 r).2).2
    have sh : bin .shl (.int .u64 ((rdW (rdW (rdN 1048576 r).2).2).1 : Int)) (.int .u64 32) = some (.int .u64 (((rdW (rdW (rdN 1048576 r).2).2).1 * 4294967296 : Nat) : Int)) := shl_u64 (a := (rdW (rdW (rdN 1048576 r).2).2).1) (k := 32) (kk := .u64) (by omega) (by omega)
    have orr : bin .or (.int .u64 ((rdW (rdN 1048576 r).2).1 : Int)) (.int .u64 (((rdW (rdW (rdN 1048576 r).2).2).1 * 4294967296 : Nat) : Int)) = some (.int .u64 (((rdW (rdN 1048576 r).2).1 + 4294967296 * (rdW (rdW (rdN 1048576 r).2).2).1 : Nat) : Int)) := or_add (n := (rdW (rdN 1048576 r).2).1) (a := (rdW (rdW (rdN 1048576 r).2).2).1) (k := 32) q1 (by omega)
    generalize hx6 : (⟨(rdN 1048576 r).1, fing (rdN 1048576 r).2 (rdW (rdN 1048576 r).2).2, .none, 0, 0, []⟩ : Change) = x6
    have t5 : stN 1 h5 (.ptr h1.length 1) (.int .u64 (((rdW (rdN 1048576 r).2).1 + 4294967296 * (rdW (rdW (rdN 1048576 r).2).2).1 : Nat) : Int)) = some (.undef, h5.set h1.length (.arr x6.c false)) := by
      rw [st_int s5.c (by rw [Change.c_len]; decide), ← hx6, ← hx4]; rfl
    have s6 := s5.put (y := x6)
    obtain ⟨h6, hh6⟩ : ∃ g, g = h5.set h1.length (.arr x6.c false) := ⟨_, rfl⟩
    rw [← hh6] at s6 t5
    have kk := kinds_keep h6
    have s7 := s6.read kk.nil (kk.rd s6.w (by simp)) s6.ok
    have gm : ((h6 ++ [AObj.arr [Fn1 n_rec_kinds_c1] false]) ++ [AObj.map (kindsM h6.length)])[h6.length + 1]? = some (.map (kindsM h6.length)) := by
      have := get_new (h := h6 ++ [AObj.arr [Fn1 n_rec_kinds_c1] false]) (x := .map (kindsM h6.length))
      simpa using this
    have ek := kinds_den h6
    generalize hH : ((h6 ++ [AObj.arr [Fn1 n_rec_kinds_c1] false]) ++ [AObj.map (kindsM h6.length)]) = h7 at kk s7 gm ek
    have lk := lk_kinds gm (rdN 1048576 r).1 false
    rw [show (AV.agg K0) = .agg [.list [] .cap, .list [] .cap, .nilFunc] from rfl] at lk
    rw [← hx6] at s7
    obtain ⟨V, nn, m2, h8, v1, v2, v3, v4, k8, s8⟩ := gets_den (z := h6.length) hJ (m0 := m) (m1 := k) (A := BL b) (B := CL acc o) (C := .int .i64 n) (E := .int .i64 i) s7
    obtain ⟨m3, rfl⟩ : ∃ m3, m2 = m3 + 1 := ⟨m2 - 1, by omega⟩
    have e8 := errR_den s8.w
    generalize hx9 : (⟨(rdN 1048576 r).1, fing (rdN 1048576 r).2 (rdW (rdN 1048576 r).2).2, (rdK (rdN 1048576 r).1 (rdW (rdW (rdN 1048576 r).2).2).2).1.1, (rdK (rdN 1048576 r).1 (rdW (rdW (rdN 1048576 r).2).2).2).1.2.1.1, (rdK (rdN 1048576 r).1 (rdW (rdW (rdN 1048576 r).2).2).2).1.2.1.2, (rdK (rdN 1048576 r).1 (rdW (rdW (rdN 1048576 r).2).2).2).1.2.2⟩ : Change) = x9 at s8
    generalize hr9 : (rdK (rdN 1048576 r).1 (rdW (rdW (rdN 1048576 r).2).2).2).2 = r9 at s8 e8
    have ech : rdCh r = (x9, r9) := by rw [← hx9, ← hr9]; rfl
    have eL : rdL (d + 1) r = (x9 :: (rdL d r9).1, (rdL d r9).2) := by
      rw [rdL, if_neg (by omega), ech]
    have elast : rec_changes.l1 J m (m3 + 1) (BL b) (.ptr pi 0) (CL acc o) (.ptr h1.length 0) (.int .i64 n) (.int .i64 i) V (.int .i64 nn) (.int .i64 nn) h8 = if r9.e = 0 then rec_changes.l0 J m (BL b) (.ptr pi 0) (CL (acc ++ [x9]) (.own 11)) (.int .i64 n) (.int .i64 ((i + 1 : Nat) : Int)) h8 else some (.pan brkR, h8) := by
      rw [rec_changes.l1_eq hJ]
      simp only [lssN, decide_eq_false (show ¬ nn < nn by omega), bind_some', condV_false, fAddr_ptr, ld_at s8.p, ptr0, canon_ptr, e8, retOr_ret, bin_eql, canon_bool, must_den]
      by_cases h9 : r9.e = 0
      · simp only [decide_eq_true (show ((r9.e : Int) = 0) by omega), if_true, retOr_ret, ldA_at s8.c, Change.agg, bind_some']
        rw [show mkRows 11 [.int .i64 0, .int .u64 0, .int .i64 0, .int .i64 0, .str [], .str [], .int .i64 0, .str [], .int .i64 0, .int .i64 0, .str []] 1 [(0, .agg x9.c)] = some (CL [x9] .cap) from rfl]
        simp only [bind_some', CL_ap ho (show acc.length ≤ 2 ^ 30 by omega), add1 i (by omega), if_pos h9]
      · simp only [decide_eq_false (show ¬ ((r9.e : Int) = 0) by omega), Bool.false_eq_true, if_false, retOr_pan, if_neg h9]
    have efin : ∃ h' o', rec_changes.l1 J m (m3 + 1) (BL b) (.ptr pi 0) (CL acc o) (.ptr h1.length 0) (.int .i64 n) (.int .i64 i) V (.int .i64 nn) (.int .i64 nn) h8 = some (match chRes b (acc ++ (rdL (d + 1) r).1) (rdL (d + 1) r).2 with | .ret _ => .ret (CL (acc ++ (rdL (d + 1) r).1) o') | .pan v => .pan v, h') := by
      rw [elast, eL]
      by_cases h9 : r9.e = 0
      · obtain ⟨h', o', e'⟩ := changes_loop hJ id pi hne b n hn d (i + 1) m (acc ++ [x9]) (.own 11) r9 h8 (by omega) (by omega) (.inr h9) rfl (by simp; omega) s8.p s8.w s8.ok
        rw [if_pos h9]
        refine ⟨h', o', ?_⟩
        rw [e']
        simp only [List.append_assoc, List.singleton_append]
      · rw [if_neg h9]
        refine ⟨h8, o, ?_⟩
        simp only [rdL_bad h9 d, chRes_bad h9]
    obtain ⟨h', o', efin⟩ := efin
    refine ⟨h', o', ?_⟩
    have i0 : i < n := by omega
    have c6 : x6.c[0]? = some (.int .i64 (rdN 1048576 r).1) := by rw [← hx6]; rfl
    rw [hx6] at s7
    simp only [lssN, decide_eq_true i0, bind_some', condV_true, ldA_at hp, ptr1, canonP, e1, retOr_ret, copy_int]
    rw [show mkAgg [.int .i64 0, .int .u64 0, .int .i64 0, .int .i64 0, .str [], .str [], .int .i64 0, .str [], .int .i64 0, .int .i64 0, .str []] [(0, 1, .int .i64 ((rdN 1048576 r).1 : Int))] = some (.agg (⟨(rdN 1048576 r).1, 0, .none, 0, 0, []⟩ : Change).c) from rfl]
    simp only [bind_some', st, fAddr_ptr, ld_at s2.p, ptr0, canon_ptr, e3, retOr_ret, u64_u32 _ q1, show 0 + 1 + 0 = 1 from rfl, t3, ld_at s4.c, c4, ld_at s4.p, e5, ld_at s5.c, eqO, eqb_self, whenB_true, u64_u32 _ q2, sh, orr, copy_int, t5, ek]
    simp only [ld_at s7.c, ld_at s6.c, c6, bind_some', eqO, eqb_self, whenB_true, lk, Bool.false_eq_true, if_false, fCell_agg, v1, v2]
    exact v4.trans efin
end Go.Proofs.YtdlnkfghgbddhaaGreat

open Go Go.Ve Go.Proofs
namespace Go.Proofs.YtdlnkfghgbddhaaGreat
set_option maxRecDepth 100000
set_option linter.all false
theorem rdN_zero {m : Nat} {r : Rd} : (rdN m r).1 = 0 ∨ (rdN m r).2.e = 0 := by
  unfold rdN
  split
  · exact .inl rfl
  · split
    · exact .inl rfl
    · split
      · exact .inl rfl
      · rename_i h _ _
        exact .inr (by show r.e = 0; omega)
theorem changes_run (b : List UInt8) (hb : b.length ≤ 2 ^ 32) : ∃ h' o' N, rec_changes.f (rec_changes.JD N) (BL b) [] = some (match changesOf b with | some l => .ret (CL l o') | none => .pan brkR, h') := by
  obtain ⟨h1, e1, k1, w1⟩ := from_den [] b .no hb
  simp only [List.length_nil] at e1 w1
  obtain ⟨G, hG⟩ : ∃ G, G = h1 ++ [AObj.arr [.ptr 0 0] false] := ⟨_, rfl⟩
  have kG : Keep [] h1 G := hG ▸ Keep.app
  have st : stN 1 (h1 ++ [AObj.arr [.nilPtr] false]) (.ptr h1.length 0) (.agg [.ptr 0 0]) = some (.undef, G) := by
    rw [st_agg (n := 1) get_new (by simp) rfl rfl, set_new, hG]
    rfl
  have gp : G[h1.length]? = some (.arr [.ptr 0 0] false) := hG ▸ get_new
  have l1 := w1.lt
  have hk : (⟨b, 0, 0⟩ : Rd).ok := ⟨Nat.zero_le _, hb, Nat.zero_le _⟩
  obtain ⟨h2, e2, k2, w2⟩ := cntR_den (m := 512) (kG.rd w1 (by simp)) hk (by decide)
  have q := rdN_ok (m := 512) hk
  rw [show (((512 : Nat) : Int)) = 512 from rfl] at e2
  obtain ⟨h3, o3, e3⟩ := changes_loop (rec_changes.fx ((rdN 512 ⟨b, 0, 0⟩).1 + 1 + 4)) 0 h1.length (by omega) b (rdN 512 ⟨b, 0, 0⟩).1 q.2.1 (rdN 512 ⟨b, 0, 0⟩).1 0 ((rdN 512 ⟨b, 0, 0⟩).1 + 1 + 4) [] .cap (rdN 512 ⟨b, 0, 0⟩).2 h2 (by omega) (by omega) rdN_zero rfl rfl (k2.get gp (by simp only [List.mem_singleton]; omega)) w2 q.1
  refine ⟨h3, o3, (rdN 512 ⟨b, 0, 0⟩).1 + 1 + 4, ?_⟩
  rw [rec_changes.f_eq (rec_changes.fx _)]
  simp only [BL_canon, e1, bind_some', retOr_ret, copy_ptr]
  rw [show mkAgg [.nilPtr] [(0, 1, .ptr 0 0)] = some (.agg [.ptr 0 0]) from rfl]
  simp only [bind_some', st, fAddr_ptr, ld_at gp, ptr0, canon_ptr, canon_int, e2, retOr_ret]
  refine e3.trans ?_
  unfold changesOf chRes
  simp only [List.nil_append]
  by_cases hc : (rdE (rdL (rdN 512 ⟨b, 0, 0⟩).1 (rdN 512 ⟨b, 0, 0⟩).2).2).e = 0 ∧ batch (rdL (rdN 512 ⟨b, 0, 0⟩).1 (rdN 512 ⟨b, 0, 0⟩).2).1 = true ∧ bodyB (rdL (rdN 512 ⟨b, 0, 0⟩).1 (rdN 512 ⟨b, 0, 0⟩).2).1 = b
  · simp only [if_pos hc]
  · simp only [if_neg hc]
theorem changes_den (b : List UInt8) (hb : b.length ≤ 2 ^ 32) (h : H) : ∃ o', D n_rec_changes [BL b] h = some (match changesOf b with | some l => .ret (CL l o') | none => .pan brkR, h) := by
  obtain ⟨h', o', N, e⟩ := changes_run b hb
  refine ⟨o', ?_⟩
  cases hc : changesOf b with
  | some l =>
    rw [hc] at e
    exact rec_changes.den N (by simp) e (by simp [AV.pure]) rfl
  | none =>
    rw [hc] at e
    refine den_pan0 (fn := Tryz.f114) (c := rec_changes.c) (h' := h') (by kernel_rfl) Tryz.func114 (by kernel_rfl) (by kernel_rfl) (by kernel_rfl) N (by simp) ?_ rfl rfl
    rw [show (pol.ann n_rec_changes).1 = rec_changes.A by kernel_rfl, show (pol.ann n_rec_changes).2 = rec_changes.an by kernel_rfl, body_real _ _ (by kernel_rfl)]
    exact e
end Go.Proofs.YtdlnkfghgbddhaaGreat

open Go Go.Ve Go.Proofs
namespace Go.Proofs.YtdlnkfghgbddhaaGreat
set_option maxRecDepth 100000
set_option linter.all false
theorem readd_none {call : Cl} {n : Nat} (x0 x1 : AV) (h : H) : rec_read.dc call n n_rec_read_c1 [x0, x1] h .nilIface = some (h ++ [.arr [] false]) := by
  rw [rec_read.d113_eq]
  simp only [taTo, if_true, bind_some', exTuple_eq]
  rw [show ([AV.agg [], AV.bool false])[0]? = some (AV.agg []) from rfl, show ([AV.agg [], AV.bool false])[1]? = some (AV.bool false) from rfl]
  simp only [bind_some', condV_false]
  rw [show AV.copy (.agg []) = .agg [] from rfl, st_agg (n := 0) get_new (by simp) rfl rfl, set_new]
  rfl
theorem copy_rows (rows : List (List AV)) (o : Own) : ∃ o', AV.copy (.list rows o) = .list rows o' := by
  cases o <;> exact ⟨_, rfl⟩
theorem read_den (b : List UInt8) (hb : b.length ≤ 2 ^ 32) (h : H) : ∃ o, D n_rec_read [BL b] h = some (.ret (.tuple (match changesOf b with | some l => [CL l o, .bool true] | none => [.list [] .cap, .bool false])), h) := by
  obtain ⟨o, e⟩ := changes_den b hb [AObj.arr [.list [] .cap] false, AObj.arr [.bool false] false]
  cases hc : changesOf b with
  | some l =>
    rw [hc] at e
    obtain ⟨o', ho⟩ := copy_rows (l.map Change.c) o
    refine ⟨o', rec_read.den 1 (by simp) (h' := [AObj.arr [CL l o] false, AObj.arr [.bool true] false] ++ [.arr [] false]) ?_ (by simp [AV.pure]) rfl⟩
    rw [rec_read.f_eq (rec_read.fx 1)]
    simp only [List.length_nil, List.nil_append, List.length_singleton, BL_canon]
    rw [show ([AObj.arr [.list [] .cap] false] ++ [AObj.arr [.bool false] false] : H) = [AObj.arr [.list [] .cap] false, AObj.arr [.bool false] false] from rfl, e]
    simp only [bind_some', retOr_ret]
    rw [show stN 1 ([AObj.arr [.list [] .cap] false, AObj.arr [.bool false] false] : H) (.ptr 0 0) (CL l o) = some (.undef, [AObj.arr [CL l o] false, AObj.arr [.bool false] false]) from rfl]
    simp only [bind_some']
    rw [show stN 1 ([AObj.arr [CL l o] false, AObj.arr [.bool false] false] : H) (.ptr 1 0) (.bool true) = some (.undef, [AObj.arr [CL l o] false, AObj.arr [.bool true] false]) from rfl]
    simp only [bind_some', readd_none]
    rw [show ldCell ([AObj.arr [CL l o] false, AObj.arr [.bool true] false] ++ [.arr [] false] : H) (.ptr 0 0) = some (CL l o) from rfl, show ldCell ([AObj.arr [CL l o] false, AObj.arr [.bool true] false] ++ [.arr [] false] : H) (.ptr 1 0) = some (.bool true) from rfl]
    simp only [Option.map_some, ho, copy_bool]
    rfl
  | none =>
    rw [hc] at e
    refine ⟨.no, rec_read.den 1 (by simp) (h' := [AObj.arr [.list [] .cap] false, AObj.arr [.bool false] false] ++ [.arr [] false]) ?_ rfl rfl⟩
    rw [rec_read.f_eq (rec_read.fx 1)]
    simp only [List.length_nil, List.nil_append, List.length_singleton, BL_canon]
    rw [show ([AObj.arr [.list [] .cap] false] ++ [AObj.arr [.bool false] false] : H) = [AObj.arr [.list [] .cap] false, AObj.arr [.bool false] false] from rfl, e]
    simp only [bind_some', retOr_pan, copy_ptr]
    rw [rec_read.d113_eq]
    simp only [taTo, if_true, bind_some', exTuple_eq]
    rw [show ([AV.agg [], AV.bool true])[0]? = some (AV.agg []) from rfl, show ([AV.agg [], AV.bool true])[1]? = some (AV.bool true) from rfl]
    simp only [bind_some', condV_true]
    rfl
def getOf (b : List UInt8) : List Change × Nat × Nat :=
  let t := rdT 1048576 ⟨b, 0, 0⟩
  let w := rdW t.2
  if w.2.e ≠ 0 then ([], 0, w.2.e)
  else if crcB (b.take t.2.p) ≠ BitVec.ofNat 32 w.1 then ([], 0, 42)
  else match changesOf t.1 with
    | some l => (l, w.2.p, 0)
    | none => ([], 0, 270)
theorem get_den (b : List UInt8) (hb : b.length ≤ 2 ^ 32) (h : H) : ∃ o, D n_rec_Get [BL b] h = some (.ret (.tuple [CL (getOf b).1 o, .int .i64 (getOf b).2.1, .int .i64 (getOf b).2.2]), h) := by
  obtain ⟨h1, e1, k1, w1⟩ := from_den [] b .no hb
  simp only [List.length_nil] at e1 w1
  have hk : (⟨b, 0, 0⟩ : Rd).ok := ⟨Nat.zero_le _, hb, Nat.zero_le _⟩
  obtain ⟨h2, e2, k2, w2⟩ := textR_den (m := 1048576) w1 hk (by decide)
  rw [show (((1048576 : Nat) : Int)) = 1048576 from rfl] at e2
  have q := rdT_ok (m := 1048576) hk
  have e3 := atR_den w2
  obtain ⟨h4, e4, k4, w4⟩ := wordR_den w2 q.1
  have e5 := errR_den w4
  have e6 := atR_den w4
  have lt := rdW_lt (rdT 1048576 ⟨b, 0, 0⟩).2
  unfold getOf
  simp only []
  generalize ht : rdT 1048576 ⟨b, 0, 0⟩ = t at *
  generalize hw : rdW t.2 = w at *
  have pb : t.2.p ≤ b.length := by have := q.1.1; rw [q.2.2] at this; exact this
  obtain ⟨o, er⟩ := read_den t.1 (by have := q.2.1; omega) h4
  have key : ∃ o', rec_Get.f (rec_Get.JD 1) (BL b) [] = some (.ret (.tuple [CL (if w.2.e ≠ 0 then ([], 0, w.2.e) else if crcB (b.take t.2.p) ≠ BitVec.ofNat 32 w.1 then ([], 0, 42) else match changesOf t.1 with | some l => (l, w.2.p, 0) | none => ([], 0, 270) : List Change × Nat × Nat).1 o', .int .i64 (if w.2.e ≠ 0 then ([], 0, w.2.e) else if crcB (b.take t.2.p) ≠ BitVec.ofNat 32 w.1 then ([], 0, 42) else match changesOf t.1 with | some l => (l, w.2.p, 0) | none => ([], 0, 270) : List Change × Nat × Nat).2.1, .int .i64 (if w.2.e ≠ 0 then ([], 0, w.2.e) else if crcB (b.take t.2.p) ≠ BitVec.ofNat 32 w.1 then ([], 0, 42) else match changesOf t.1 with | some l => (l, w.2.p, 0) | none => ([], 0, 270) : List Change × Nat × Nat).2.2]), h4) := by
    rw [rec_Get.f_eq (rec_Get.fx 1)]
    simp only [BL_canon, e1, bind_some', retOr_ret, canon_ptr, canon_int, e2, e3, e4, e5, bin_neq]
    by_cases he : w.2.e = 0
    · simp only [decide_eq_false (show ¬ ((w.2.e : Int) ≠ 0) by omega), condV_false, if_neg (show ¬ (w.2.e ≠ 0) by omega), BL_to pb, bind_some', BL_canon]
      rw [w32_of lt, whole_den (b.take t.2.p) .no (BitVec.ofNat 32 w.1) (by rw [List.length_take]; omega)]
      simp only [bind_some', retOr_ret, not_bool]
      by_cases hx : crcB (b.take t.2.p) = BitVec.ofNat 32 w.1
      · simp only [decide_eq_true hx, Bool.not_true, condV_false, if_neg (show ¬ (crcB (b.take t.2.p) ≠ BitVec.ofNat 32 w.1) from fun h => h hx), BL_str, bind_some', BL_canon, er, retOr_ret, exTuple_eq]
        cases hc : changesOf t.1 with
        | none => exact ⟨.cap, rfl⟩
        | some l =>
          rw [show ([CL l o, AV.bool true])[0]? = some (CL l o) from rfl, show ([CL l o, AV.bool true])[1]? = some (.bool true) from rfl]
          simp only [bind_some', not_bool, Bool.not_true, condV_false, e6, retOr_ret]
          exact ⟨o, rfl⟩
      · simp only [decide_eq_false hx, Bool.not_false, condV_true, if_pos (show crcB (b.take t.2.p) ≠ BitVec.ofNat 32 w.1 from hx)]
        exact ⟨.cap, rfl⟩
    · simp only [decide_eq_true (show ((w.2.e : Int) ≠ 0) by omega), condV_true, if_pos (show w.2.e ≠ 0 from he), bind_some', e5, retOr_ret]
      exact ⟨.cap, rfl⟩
  obtain ⟨o', key⟩ := key
  exact ⟨o', rec_Get.den 1 (by simp) key (by simp [AV.pure]) rfl⟩
end Go.Proofs.YtdlnkfghgbddhaaGreat

open Go Go.Ve Go.Proofs
namespace Go.Proofs.YtdlnkfghgbddhaaGreat
set_option maxRecDepth 100000
set_option linter.all false
theorem rdT_tx {m : Nat} {s : List UInt8} {r : Rd} {t : List UInt8} (h : r.At (txB s ++ t)) (hm : s.length ≤ m) (hn : s.length < 2 ^ 64) : rdT m r = (s, r.go (txB s).length) := rdT_put h hm hn
end Go.Proofs.YtdlnkfghgbddhaaGreat

open Go Go.Ve Go.Proofs
namespace Go.Proofs.YtdlnkfghgbddhaaGreat
set_option maxRecDepth 100000
set_option linter.all false
theorem rdW_bad {r : Rd} (h : r.e ≠ 0) : rdW r = (0, r) := by unfold rdW; rw [if_pos h]
theorem getOf_bad {b : List UInt8} {e : Nat} (h : (rdT 1048576 ⟨b, 0, 0⟩).2.e = e) (he : e ≠ 0) : getOf b = ([], 0, e) := by
  unfold getOf
  simp only [rdW_bad (show (rdT 1048576 ⟨b, 0, 0⟩).2.e ≠ 0 by omega), h]
  rw [if_pos he]
theorem getOf_cut {b : List UInt8} (hb : b.length ≤ 1048576) {n : Nat} (hn : n < (frame b).length) : getOf ((frame b).take n) = ([], 0, 10) := by
  have hf : frame b = lebB b.length ++ (b ++ wdB (crcB (txB b)).toNat) := by rw [frame, txB, List.append_assoc]
  have hfl : (frame b).length = (lebB b.length).length + (b.length + 4) := by rw [hf]; simp [wdB]
  rcases Nat.lt_or_ge n (lebB b.length).length with h1 | h1
  · refine getOf_bad ?_ (by decide)
    rw [hf, List.take_append_of_le_length (by omega)]
    unfold rdT
    simp only [List.drop_zero, lebG_cut (show b.length < 2 ^ 64 by omega) h1]
    rfl
  · obtain ⟨m, rfl⟩ : ∃ m, n = (lebB b.length).length + m := ⟨n - (lebB b.length).length, by omega⟩
    have et : (frame b).take ((lebB b.length).length + m) = lebB b.length ++ (b ++ wdB (crcB (txB b)).toNat).take m := by
      rw [hf, List.take_append, List.take_of_length_le (Nat.le_add_right _ _), Nat.add_sub_cancel_left]
    rcases Nat.lt_or_ge m b.length with h2 | h2
    · refine getOf_bad ?_ (by decide)
      rw [et]
      unfold rdT
      simp only [List.drop_zero, lebG_put _ (show b.length < 2 ^ 64 by omega)]
      rw [if_neg (by decide), if_neg (by decide), if_neg (by omega), if_pos (by simp; omega)]
    · obtain ⟨q, rfl⟩ : ∃ q, m = b.length + q := ⟨m - b.length, by omega⟩
      have e2 : (b ++ wdB (crcB (txB b)).toNat).take (b.length + q) = b ++ (wdB (crcB (txB b)).toNat).take q := by
        rw [List.take_append, List.take_of_length_le (Nat.le_add_right _ _), Nat.add_sub_cancel_left]
      rw [e2, ← List.append_assoc] at et
      rw [et]
      have ha : (⟨(lebB b.length ++ b) ++ (wdB (crcB (txB b)).toNat).take q, 0, 0⟩ : Rd).At ((lebB b.length ++ b) ++ (wdB (crcB (txB b)).toNat).take q) := ⟨rfl, rfl, Nat.zero_le _⟩
      have e1 := rdT_put (m := 1048576) ha hb (by omega)
      have h3 := ha.next
      unfold getOf
      simp only [e1]
      have hl := congrArg List.length h3.d
      rw [List.length_drop, List.length_take, wdB_len] at hl
      have hw : rdW ((⟨(lebB b.length ++ b) ++ (wdB (crcB (txB b)).toNat).take q, 0, 0⟩ : Rd).go (lebB b.length ++ b).length) = (0, ⟨(lebB b.length ++ b) ++ (wdB (crcB (txB b)).toNat).take q, 0 + (lebB b.length ++ b).length, 10⟩) := by
        unfold rdW
        rw [if_neg (by rw [h3.e]; simp), if_pos (by omega)]
        rfl
      rw [hw]
      exact if_pos (show (10 : Nat) ≠ 0 by decide)
theorem getOf_sum {s : List UInt8} {v : Nat} {b : List UInt8} (hb : b = txB s ++ wdB v) (hs : s.length ≤ 1048576) (hv : v < 2 ^ 32) (hc : crcB (txB s) ≠ BitVec.ofNat 32 v) : getOf b = ([], 0, 42) := by
  have h : (⟨b, 0, 0⟩ : Rd).At (txB s ++ (wdB v ++ [])) := ⟨rfl, by rw [List.append_nil]; exact hb, Nat.zero_le _⟩
  have e1 := rdT_tx (m := 1048576) h hs (by omega)
  have h2 := h.next
  have e2 := rdW_put h2 hv
  have h3 := h2.next
  have e4 : b.take (txB s).length = txB s := by rw [hb, List.take_left]
  have hp1 : ((⟨b, 0, 0⟩ : Rd).go (txB s).length).p = (txB s).length := Nat.zero_add _
  unfold getOf
  simp only [e1, e2, hp1, e4]
  rw [if_neg (by rw [h3.e]; simp), if_pos hc]
theorem getOf_turned {b : List UInt8} (hb : b.length ≤ 1048576) {a : Nat} {t : BitVec 32} (ht : t ≠ 0#32) (h1 : 8 * (lebB b.length).length ≤ a) (h2 : a + 32 ≤ 8 * (frame b).length) : getOf (turnL 32 0 a (frame b) t.toNat) = ([], 0, 42) := by
  have hf : frame b = lebB b.length ++ (b ++ wdB (crcB (txB b)).toNat) := by rw [frame, txB, List.append_assoc]
  have hfl : (frame b).length = (lebB b.length).length + (b.length + 4) := by rw [hf]; simp [wdB]
  have hlen : (turnL 32 0 a (frame b) t.toNat).length = (frame b).length := turnL_len ..
  have hbits : ∀ k, k < 8 * (frame b).length → bitAt (turnL 32 0 a (frame b) t.toNat) k = (bitAt (frame b) k ^^ burst a t k) := fun k hk => bitAt_turn a _ t k hk
  generalize turnL 32 0 a (frame b) t.toNat = M at *
  have hp : M.take (lebB b.length).length = lebB b.length := by
    rw [take_bits (l := frame b) hlen (fun k hk hk2 => by
      rw [hbits k hk2]
      unfold burst
      rw [decide_eq_false (show ¬ a ≤ k by omega), Bool.false_and, Bool.xor_false])]
    rw [hf, List.take_left]
  obtain ⟨R, hR⟩ : ∃ R, R = M.drop (lebB b.length).length := ⟨_, rfl⟩
  have hM : M = lebB b.length ++ R := by
    have := List.take_append_drop (lebB b.length).length M
    rw [hp] at this
    rw [hR]
    exact this.symm
  have hRl : R.length = b.length + 4 := by rw [hR, List.length_drop]; omega
  have e1 : (R.take b.length).length = b.length := by rw [List.length_take]; omega
  have e2 : R.drop b.length = wdB (wdN (R.drop b.length)) := by
    rw [wdB_inv (by rw [List.length_drop]; omega), List.take_of_length_le (by rw [List.length_drop]; omega)]
  have e3 : M = txB (R.take b.length) ++ wdB (wdN (R.drop b.length)) := by
    rw [← e2, txB, e1, List.append_assoc, List.take_append_drop]
    exact hM
  refine getOf_sum e3 (by omega) (wdN_lt _) (fun hc => ?_)
  have r1 := crcL_right (wdN_lt _) hc
  rw [← e3] at r1
  have r2 := crcL_right (d := txB b) (n := (crcB (txB b)).toNat) (BitVec.isLt _) (by rw [BitVec.ofNat_toNat, BitVec.setWidth_eq])
  exact burst_found hlen ht h2 hbits (~~~ 0#32) (r1.trans r2.symm)
end Go.Proofs.YtdlnkfghgbddhaaGreat

open Go Go.Ve Go.Proofs
namespace Go.Proofs.YtdlnkfghgbddhaaGreat
set_option maxRecDepth 100000
set_option linter.all false
structure DS (id q z : Nat) (r : Rd) (x : Change) (h : H) : Prop where
  c : h[q]? = some (.arr x.c false)
  o : ∃ y : Change, h[z]? = some (.arr y.c false)
  w : RdAt h id r
  ok : r.ok
  nq : q ≠ id
  nz : z ≠ id
  qz : q ≠ z
theorem DS.read {id q z : Nat} {r r' : Rd} {x : Change} {h h' : H} (s : DS id q z r x h) (k : Keep [id] h h') (w : RdAt h' id r') (ok : r'.ok) : DS id q z r' x h' :=
  ⟨k.get s.c (by simp; exact s.nq), s.o.imp fun _ ho => k.get ho (by simp; exact s.nz), w, ok, s.nq, s.nz, s.qz⟩
theorem DS.put {id q z : Nat} {r : Rd} {x y : Change} {h : H} (s : DS id q z r x h) : DS id q z r y (h.set q (.arr y.c false)) :=
  have k : Keep [q] h (h.set q (.arr y.c false)) := .set (by simp)
  ⟨get_set s.c, s.o.imp fun _ ho => k.get ho (by simp; exact fun e => s.qz e.symm), k.rd s.w (by simp; exact fun e => s.nq e.symm), s.ok, s.nq, s.nz, s.qz⟩
theorem DS.num {id q z : Nat} {r : Rd} {x : Change} {h : H} (s : DS id q z r x h) : ∃ h', D n_warrantorref02_Reader_Count [.ptr id 0, .int .i64 1048576] h = some (.ret (.int .i64 (rdN 1048576 r).1), h') ∧ Keep [id] h h' ∧ DS id q z (rdN 1048576 r).2 x h' := by
  obtain ⟨h', e, k, w⟩ := dCount_den (m := 1048576) s.w s.ok (by decide)
  exact ⟨h', e, k, s.read k w (rdN_ok s.ok).1⟩
theorem DS.text {id q z : Nat} {r : Rd} {x : Change} {h : H} (s : DS id q z r x h) : ∃ h', D n_warrantorref02_Reader_Text [.ptr id 0, .int .i64 1048576] h = some (.ret (.str (rdT 1048576 r).1), h') ∧ Keep [id] h h' ∧ DS id q z (rdT 1048576 r).2 x h' := by
  obtain ⟨h', e, k, w⟩ := dText_den (m := 1048576) s.w s.ok (by decide)
  exact ⟨h', e, k, s.read k w (rdT_ok s.ok).1⟩
theorem DS.setI {id q z : Nat} {r : Rd} {x : Change} {h : H} (s : DS id q z r x h) (y : Change) (off : Nat) (v : Int) (ho : off < 11) (hy : x.c.set off (.int .i64 v) = y.c) : stN 1 h (.ptr q off) (.int .i64 v) = some (.undef, h.set q (.arr y.c false)) := by
  rw [st_int s.c (by rw [Change.c_len]; exact ho), hy]
theorem DS.setS {id q z : Nat} {r : Rd} {x : Change} {h : H} (s : DS id q z r x h) (y : Change) (off : Nat) (v : List UInt8) (ho : off < 11) (hy : x.c.set off (.str v) = y.c) : stN 1 h (.ptr q off) (.str v) = some (.undef, h.set q (.arr y.c false)) := by
  rw [st_str s.c (by rw [Change.c_len]; exact ho), hy]
end Go.Proofs.YtdlnkfghgbddhaaGreat

open Go Go.Ve Go.Proofs
namespace Go.Proofs.YtdlnkfghgbddhaaGreat
set_option maxRecDepth 100000
set_option linter.all false
end Go.Proofs.YtdlnkfghgbddhaaGreat
