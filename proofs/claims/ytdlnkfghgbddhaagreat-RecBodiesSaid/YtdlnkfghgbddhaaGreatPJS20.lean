/- What the functions of the records' layer come to: 20: a batch's bytes, by the document. -/
import Derived.Test.YtdlnkfghgbddhaaGreatPJS19
set_option linter.all false

open Go Go.Ve Go.Proofs
namespace Go.Proofs.YtdlnkfghgbddhaaGreat
set_option maxRecDepth 100000
set_option linter.all false

theorem rNumZ_den {z : Int} (h1 : 0 ≤ z) (h2 : z ≤ 2 ^ 62) (h : H) : D n_warrantorref02_Num [.int .i64 z] h = some (.ret (BL (lebB z.toNat) (.own 1)), h) := by
  have := rNum_den z.toNat (by omega) h
  rwa [Int.toNat_of_nonneg h1] at this
theorem apO {l l' : List UInt8} {o' : Own} {h : H} (hl : l.length + l'.length ≤ 2 ^ 40) : apSlice 1 1 true true h (BL l (.own 1)) (BL l' o') = some (BL (l ++ l') (.own 1)) := BL_app rfl hl
theorem rAl_den (a : Alarm) (ha : a.ok = true) (h : H) : D n_warrantorref27_alarm [.agg a.c] h = some (.ret (BL (alB a) (.own 1)), h) := by
  have q := Alarm.ok_nums ha
  have l1 := lebB_10 (n := a.kind.toNat) (by omega)
  have l2 := lebB_10 (n := a.sev.toNat) (by omega)
  have l3 := lebB_10 (n := a.line.toNat) (by omega)
  have t1 := txB_len (s := a.func) (by omega)
  have t2 := txB_len (s := a.file) (by omega)
  have t3 := txB_len (s := a.expr) (by omega)
  have g : ([AObj.arr a.c false] : H)[0]? = some (.arr a.c false) := rfl
  refine warrantorref27_alarm.den 1 (by simp [pureL, AV.pure]) (h' := [.arr a.c false]) ?_ (by simp [AV.pure]) rfl
  rw [warrantorref27_alarm.f_eq (warrantorref27_alarm.fx 1)]
  rw [copy_agg, Alarm.c_copy, bx_agg a.c_one]
  have e1 := apO (l := lebB a.kind.toNat) (l' := lebB a.sev.toNat) (o' := .own 1) (h := [AObj.arr a.c false]) (by omega)
  have e2 := apO (l := lebB a.kind.toNat ++ lebB a.sev.toNat) (l' := txB a.func) (o' := .own 1) (h := [AObj.arr a.c false]) (by simp; omega)
  have e3 := apO (l := lebB a.kind.toNat ++ lebB a.sev.toNat ++ txB a.func) (l' := txB a.file) (o' := .own 1) (h := [AObj.arr a.c false]) (by simp; omega)
  have e4 := apO (l := lebB a.kind.toNat ++ lebB a.sev.toNat ++ txB a.func ++ txB a.file) (l' := lebB a.line.toNat) (o' := .own 1) (h := [AObj.arr a.c false]) (by simp; omega)
  have e5 := apO (l := lebB a.kind.toNat ++ lebB a.sev.toNat ++ txB a.func ++ txB a.file ++ lebB a.line.toNat) (l' := txB a.expr) (o' := .own 1) (h := [AObj.arr a.c false]) (by simp; omega)
  simp only [bind_some', List.length_nil, List.nil_append, fAddr_ptr, ld_at g, a.a0, a.a1, a.a2, a.a3, a.a4, a.a5, canon_int, canon_str, rNumZ_den (show 0 ≤ a.kind by omega) (by omega), rNumZ_den (show 0 ≤ a.sev by omega) (by omega), rNumZ_den (show 0 ≤ a.line by omega) (by omega), rText_den a.func (by omega), rText_den a.file (by omega), rText_den a.expr (by omega), retOr_ret, e1, e2, e3, e4, e5]
  simp [alB, List.append_assoc]
theorem ok_note {x : Change} (h : x.ok = true) : x.entry.note.length ≤ 64 := by
  rcases ok_cases h with q | q | q | q
  · rw [q.2.2.2.2]; simp
  · exact noteS_len q.2.1
  · rw [q.2.2.2.2]; simp
  · exact noteS_len (Entry.ok_nums q.2).2.2.2.2.2
theorem u64rem (n : Nat) : bin .rem (.int .u64 (n : Int)) (.int .u64 4294967296) = some (.int .u64 ((n % 4294967296 : Nat) : Int)) := by
  rw [bin_rem, if_neg (by decide)]; rfl
theorem u64quo (n : Nat) (hn : n < 2 ^ 64) : bin .quo (.int .u64 (n : Int)) (.int .u64 4294967296) = some (.int .u64 ((n / 4294967296 : Nat) : Int)) := by
  rw [bin_quo, if_neg (by decide)]
  rw [show ((n : Int).tdiv 4294967296) = ((n / 4294967296 : Nat) : Int) from rfl, wrap_u64 (by omega) (by omega)]
theorem rbody_loop {J : Jn (AEnd × H)} {k : Nat} (hJ : warrantorref27_Body.F D k J) (l : List Change) (hl : l.length ≤ 512) (hok : l.all Change.ok = true) : ∀ (d i m : Nat) (acc : List UInt8) (h : H), i + d = l.length → d < m → acc.length + 500 * d ≤ 2 ^ 30 →
    ∃ h', warrantorref27_Body.l0 J m (CL l) (BL acc (.own 1)) (.int .i64 i) h = some (.ret (BL (acc ++ (l.drop i).flatMap chB) (.own 1)), h')
  | 0, i, m + 1, acc, h, hi, _, hb => by
    rw [warrantorref27_Body.l0_eq hJ, List.drop_of_length_le (by omega), List.flatMap_nil, List.append_nil]
    refine ⟨h, ?_⟩
    simp only [CL_len, lssN, decide_eq_false (show ¬ i < l.length by omega), bind_some', condV_false]
  | d + 1, i, m + 1, acc, h, hi, hm, hb => by
    have hil : i < l.length := by omega
    have hx : l[i].ok = true := List.all_eq_true.mp hok _ (List.getElem_mem hil)
    rw [warrantorref27_Body.l0_eq hJ, List.drop_eq_getElem_cons hil, List.flatMap_cons]
    generalize hxx : l[i] = x at hx
    have hk := ok_kind hx
    have hn := ok_note hx
    have lc := chB_len hx
    have lt := tailB_len hx
    have l1 := lebB_10 (n := x.kind.toNat) (by omega)
    have tn := txB_len (s := x.entry.note) (by omega)
    obtain ⟨h', ih⟩ := rbody_loop hJ l hl hok d (i + 1) m (acc ++ chB x) ((h ++ [.arr x.c false]) ++ [.arr x.entry.c false]) (by omega) (by omega) (by simp; omega)
    refine ⟨h', ?_⟩
    obtain ⟨G, hG⟩ : ∃ G : H, G = (h ++ [AObj.arr x.c false]) ++ [.arr x.entry.c false] := ⟨_, rfl⟩
    rw [← hG] at ih
    have gx : G[h.length]? = some (.arr x.c false) := hG ▸ get_app get_new
    have ge : G[h.length + 1]? = some (.arr x.entry.c false) := by
      have := get_new (h := h ++ [AObj.arr x.c false]) (x := .arr x.entry.c false)
      rw [hG]; simpa using this
    have sl : slotOp h.length [.int .i64 0, .int .u64 0, .int .i64 0, .int .i64 0, .str [], .str [], .int .i64 0, .str [], .int .i64 0, .int .i64 0, .str []] (h ++ [AObj.arr [.int .i64 0, .int .u64 0, .int .i64 0, .int .i64 0, .str [], .str [], .int .i64 0, .str [], .int .i64 0, .int .i64 0, .str []] false]) = some (.ptr h.length 0) := by
      unfold slotOp
      rw [get_new]
      rfl
    have st1 : stN 11 ((h ++ [AObj.arr [.int .i64 0, .int .u64 0, .int .i64 0, .int .i64 0, .str [], .str [], .int .i64 0, .str [], .int .i64 0, .int .i64 0, .str []] false]) ++ [AObj.arr [.int .u64 0, .int .i64 0, .int .i64 0, .str [], .str [], .int .i64 0, .str [], .int .i64 0, .int .i64 0, .str []] false]) (.ptr h.length 0) (.agg x.c) = some (.undef, (h ++ [AObj.arr x.c false]) ++ [AObj.arr [.int .u64 0, .int .i64 0, .int .i64 0, .str [], .str [], .int .i64 0, .str [], .int .i64 0, .int .i64 0, .str []] false]) := by
      rw [st_agg (n := 11) (get_app get_new) (by rw [Change.c_len]; decide) x.c_len x.c_one]
      simp [List.set_append]
    have st2 : stN 10 ((h ++ [AObj.arr x.c false]) ++ [AObj.arr [.int .u64 0, .int .i64 0, .int .i64 0, .str [], .str [], .int .i64 0, .str [], .int .i64 0, .int .i64 0, .str []] false]) (.ptr (h.length + 1) 0) (.agg x.entry.c) = some (.undef, G) := by
      have g2 := get_new (h := h ++ [AObj.arr x.c false]) (x := AObj.arr [.int .u64 0, .int .i64 0, .int .i64 0, .str [], .str [], .int .i64 0, .str [], .int .i64 0, .int .i64 0, .str []] false)
      rw [show (h ++ [AObj.arr x.c false]).length = h.length + 1 by simp] at g2
      rw [st_agg (n := 10) g2 (by rw [Entry.c_len]; decide) x.entry.c_len x.entry.c_one, hG]
      simp [List.set_append]
    have ej3 : ∀ (b : Bool) (acc' : List UInt8), acc'.length ≤ 2 ^ 39 → warrantorref27_Body.j3 J m (CL l) (BL acc' (.own 1)) (.int .i64 i) (.ptr (h.length + 1) 0) (.bool b) G = warrantorref27_Body.l0 J m (CL l) (BL (acc' ++ if b then txB x.entry.note else []) (.own 1)) (.int .i64 ((i + 1 : Nat) : Int)) G := by
      intro b acc' ha
      rw [warrantorref27_Body.j3_eq hJ]
      cases b with
      | true => simp only [condV_true, fAddr_ptr, bind_some', ld_at ge, Entry.c9, canon_str, rText_den x.entry.note (by omega), retOr_ret, apO (l := acc') (l' := txB x.entry.note) (o' := .own 1) (by omega), add1 i (by omega), if_true]
      | false => simp only [condV_false, bind_some', add1 i (by omega), Bool.false_eq_true, if_false, List.append_nil]
    have ej2 : ∀ acc' : List UInt8, acc'.length ≤ 2 ^ 39 → warrantorref27_Body.j2 J m (CL l) (BL acc' (.own 1)) (.int .i64 i) (.ptr h.length 0) (.ptr (h.length + 1) 0) G = warrantorref27_Body.l0 J m (CL l) (BL (acc' ++ if x.kind = 2 ∨ x.kind = 5 then txB x.entry.note else []) (.own 1)) (.int .i64 ((i + 1 : Nat) : Int)) G := by
      intro acc' ha
      rw [warrantorref27_Body.j2_eq hJ]
      simp only [fAddr_ptr, bind_some', ld_at gx, Change.c0, bin_eql, ej3 _ acc' ha]
      by_cases h2 : x.kind = 2
      · simp only [decide_eq_true h2, condV_true, if_true, if_pos (show x.kind = 2 ∨ x.kind = 5 from .inl h2)]
      · by_cases h5 : x.kind = 5
        · simp only [decide_eq_false h2, decide_eq_true h5, condV_false, if_true, if_pos (show x.kind = 2 ∨ x.kind = 5 from .inr h5)]
        · simp only [decide_eq_false h2, decide_eq_false h5, condV_false, Bool.false_eq_true, if_false, if_neg (show ¬ (x.kind = 2 ∨ x.kind = 5) by omega)]
    have ej0 : ∀ acc' : List UInt8, acc'.length ≤ 2 ^ 38 → warrantorref27_Body.j0 J m (CL l) (BL acc' (.own 1)) (.int .i64 i) (.ptr h.length 0) (.ptr (h.length + 1) 0) G = warrantorref27_Body.l0 J m (CL l) (BL (acc' ++ ((if x.kind = 5 then stB x.entry else []) ++ (if x.kind = 2 ∨ x.kind = 5 then txB x.entry.note else []))) (.own 1)) (.int .i64 ((i + 1 : Nat) : Int)) G := by
      intro acc' ha
      rw [warrantorref27_Body.j0_eq hJ]
      simp only [fAddr_ptr, bind_some', ld_at gx, Change.c0, bin_eql]
      by_cases h5 : x.kind = 5
      · have q : x.entry.ok = true := by
          rcases ok_cases hx with q | q | q | q
          · omega
          · omega
          · omega
          · exact q.2
        have q := Entry.ok_nums q
        have s1 := lebB_10 (n := x.entry.state.toNat) (by omega)
        have s2 := lebB_10 (n := x.entry.count.toNat) (by omega)
        simp only [decide_eq_true h5, condV_true, ld_at ge, Entry.c7, Entry.c8, bind_some', canon_int, rNumZ_den (show 0 ≤ x.entry.state by omega) (by omega), rNumZ_den (show 0 ≤ x.entry.count by omega) (by omega), retOr_ret, apO (l := acc') (l' := lebB x.entry.state.toNat) (o' := .own 1) (h := G) (by omega), apO (l := acc' ++ lebB x.entry.state.toNat) (l' := lebB x.entry.count.toNat) (o' := .own 1) (h := G) (by simp; omega), ej2 (acc' ++ lebB x.entry.state.toNat ++ lebB x.entry.count.toNat) (by simp; omega), if_pos h5]
        rw [show stB x.entry = lebB x.entry.state.toNat ++ lebB x.entry.count.toNat from rfl]
        simp only [List.append_assoc]
      · simp only [decide_eq_false h5, condV_false, ej2 acc' (by omega), if_neg h5, List.nil_append]
    have ej1 : ∀ (b : Bool) (acc' : List UInt8), acc'.length ≤ 2 ^ 37 → (b = true ↔ x.kind = 1 ∨ x.kind = 5) → warrantorref27_Body.j1 J m (CL l) (BL acc' (.own 1)) (.int .i64 i) (.ptr h.length 0) (.ptr (h.length + 1) 0) (.bool b) G = warrantorref27_Body.l0 J m (CL l) (BL (acc' ++ tailB x.kind x.entry) (.own 1)) (.int .i64 ((i + 1 : Nat) : Int)) G := by
      intro b acc' ha hb
      rw [warrantorref27_Body.j1_eq hJ]
      unfold tailB
      cases b with
      | true =>
        have hb := hb.1 rfl
        have q : x.entry.alarm.ok = true := by
          rcases ok_cases hx with q | q | q | q
          · exact q.2.1
          · omega
          · omega
          · exact (Entry.ok_nums q.2).1
        have la := alB_len q
        simp only [condV_true, fAddr_ptr, bind_some', ldA_at ge, Entry.alarmAt, canon_agg, Alarm.c_canon, rAl_den _ q, retOr_ret, apO (l := acc') (l' := alB x.entry.alarm) (o' := .own 1) (h := G) (by omega), ej0 (acc' ++ alB x.entry.alarm) (by simp; omega), if_pos hb, List.append_assoc]
      | false =>
        have hb : ¬ (x.kind = 1 ∨ x.kind = 5) := fun h => Bool.noConfusion (hb.2 h)
        simp only [condV_false, ej0 acc' (by omega), if_neg hb, List.nil_append]
    have hf := x.entry.finger.isLt
    have q : x.entry.finger.val / 4294967296 % 4294967296 = x.entry.finger.val / 4294967296 := Nat.mod_eq_of_lt (by omega)
    have q' : x.entry.finger.val % 4294967296 % 4294967296 = x.entry.finger.val % 4294967296 := Nat.mod_mod _ _
    have w1 := rWord_den (x.entry.finger.val % 4294967296) (by omega) G
    have w2 := rWord_den (x.entry.finger.val / 4294967296) (by omega) G
    have a1 := apO (l := acc) (l' := lebB x.kind.toNat) (o' := .own 1) (h := G) (by omega)
    have a2 := apO (l := acc ++ lebB x.kind.toNat) (l' := wdB (x.entry.finger.val % 4294967296)) (o' := .cap) (h := G) (by simp [wdB]; omega)
    have a3 := apO (l := acc ++ lebB x.kind.toNat ++ wdB (x.entry.finger.val % 4294967296)) (l' := wdB (x.entry.finger.val / 4294967296)) (o' := .cap) (h := G) (by simp [wdB]; omega)
    simp only [CL_len, lssN, decide_eq_true hil, bind_some', condV_true, CL_at hil, hxx, fAddr_rptr, ldAgg_rptr, Change.agg, Change.entryAt, sl, copy_agg, Change.c_copy, Entry.c_copy, List.length_append, List.length_singleton, st1, eqO, eqb_self, whenB_true, st2, fAddr_ptr, ld_at gx, ld_at ge, Change.c0, Entry.c0, canon_int, rNumZ_den (show 0 ≤ x.kind by omega) (show x.kind ≤ 2 ^ 62 by omega), retOr_ret, a1, u64rem, u64quo _ hf, cv32, q, q', w1, w2, a2, a3, bin_eql]
    have fin : ∀ b : Bool, (b = true ↔ x.kind = 1 ∨ x.kind = 5) → warrantorref27_Body.j1 J m (CL l) (BL (acc ++ lebB x.kind.toNat ++ wdB (x.entry.finger.val % 4294967296) ++ wdB (x.entry.finger.val / 4294967296)) (.own 1)) (.int .i64 i) (.ptr h.length 0) (.ptr (h.length + 1) 0) (.bool b) G = some (.ret (BL (acc ++ (chB x ++ (l.drop (i + 1)).flatMap chB)) (.own 1)), h') := by
      intro b hb
      rw [ej1 b _ (by simp [wdB]; omega) hb]
      have e : acc ++ lebB x.kind.toNat ++ wdB (x.entry.finger.val % 4294967296) ++ wdB (x.entry.finger.val / 4294967296) ++ tailB x.kind x.entry = acc ++ chB x := by simp [chB, fiB, List.append_assoc]
      rw [e, ih, List.append_assoc]
    by_cases h1 : x.kind = 1
    · simp only [decide_eq_true h1, condV_true]
      exact fin true ⟨fun _ => .inl h1, fun _ => rfl⟩
    · simp only [decide_eq_false h1, condV_false]
      exact fin _ (by rw [decide_eq_true_iff]; omega)
theorem rbody_den (l : List Change) (hb : batch l = true) (h : H) : D n_warrantorref27_Body [CL l] h = some (.ret (BL (bodyB l) (.own 1)), h) := by
  unfold batch at hb
  simp only [Bool.and_eq_true, decide_eq_true_eq] at hb
  have l10 := lebB_10 (n := l.length) (by omega)
  obtain ⟨h', e⟩ := rbody_loop (warrantorref27_Body.fx (l.length + 1)) l hb.2.2 hb.1 l.length 0 (l.length + 1) (lebB l.length) [] (by omega) (by omega) (by omega)
  refine warrantorref27_Body.den (l.length + 1) (by simp) (h' := h') ?_ (by simp [AV.pure]) rfl
  rw [warrantorref27_Body.f_eq (warrantorref27_Body.fx _)]
  simp only [CL_len, bind_some', canon_int, rNum_den l.length (by omega), retOr_ret]
  exact e
theorem rframe_den (b : List UInt8) (o : Own) (hb : b.length ≤ 2 ^ 30) (h : H) : D n_warrantorref27_Frame [BL b o] h = some (.ret (BL (frame b) (.own 1)), h) := by
  have tl := txB_len (s := b) (by omega)
  refine warrantorref27_Frame.den 1 (by simp) (h' := []) ?_ (by simp [AV.pure]) rfl
  rw [warrantorref27_Frame.f_eq (warrantorref27_Frame.fx 1)]
  simp only [BL_toStr, bind_some', canon_str, rText_den b (by omega), retOr_ret, BL_canon, rSum_den _ _ (show (txB b).length ≤ 2 ^ 40 by omega), canon_int, rWord_den _ (BitVec.isLt _), apO (l := txB b) (l' := wdB (crcB (txB b)).toNat) (o' := .cap) (h := []) (by simp [wdB]; omega)]
  rfl
theorem rput_den (l : List Change) (hb : batch l = true) (h : H) : D n_warrantorref27_Put [CL l] h = some (.ret (BL (frame (bodyB l)) (.own 1)), h) := by
  have bl := bodyB_len hb
  refine warrantorref27_Put.den 1 (by simp) (h' := []) ?_ (by simp [AV.pure]) rfl
  rw [warrantorref27_Put.f_eq (warrantorref27_Put.fx 1)]
  simp only [canon_list, rbody_den l hb, bind_some', retOr_ret, BL_canon, rframe_den _ _ (show (bodyB l).length ≤ 2 ^ 30 by omega)]
end Go.Proofs.YtdlnkfghgbddhaaGreat
