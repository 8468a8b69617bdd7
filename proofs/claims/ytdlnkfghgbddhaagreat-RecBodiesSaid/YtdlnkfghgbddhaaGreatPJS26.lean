/- What the functions of the records' layer come to: 26: a body is read, by the program: the loop. -/
import Derived.Test.YtdlnkfghgbddhaaGreatPJS25
set_option linter.all false

open Go Go.Ve Go.Proofs
namespace Go.Proofs.YtdlnkfghgbddhaaGreat
set_option maxRecDepth 100000
set_option linter.all false

theorem u64_u32 (n : Nat) (h : n < 2 ^ 32) : cvInt .u64 (.int .u32 (n : Int)) = some (.int .u64 (n : Int)) := by
  rw [cvInt_int, wrap_u64 (by omega) (by omega)]
theorem rdL_bad {r : Rd} (h : r.e ≠ 0) (d : Nat) : rdL d r = ([], r) := by
  cases d with
  | zero => rfl
  | succ d => unfold rdL; rw [if_pos h]
theorem chRes_bad {b : List UInt8} {l : List Change} {r : Rd} (h : r.e ≠ 0) : chRes b l r = .pan brkR := by
  unfold chRes rdE
  rw [if_neg (show ¬ (r.e = 0 ∧ r.p < r.b.length) from fun h' => h h'.1), if_neg (fun h' => h h'.1)]
theorem CL_ap {l : List Change} {x : Change} {o o' : Own} {h : H} (ho : mayApp o 11 true = true) (hl : l.length ≤ 2 ^ 30) : apSlice 11 120 false true h (CL l o) (CL [x] o') = some (CL (l ++ [x]) (.own 11)) := by
  have := ap_map (l := l) (l' := [x]) (f := Change.c) (o := o) (o' := o') (s := 11) (bytes := 120) (byte := false) (owned := true) (h := h) ho (by decide) Change.c_len (by simp; omega) (by simp; omega)
  show apSlice 11 120 false true h (.list (l.map Change.c) o) (.list ([x].map Change.c) o') = some (.list ((l ++ [x]).map Change.c) (.own 11))
  exact this
theorem changes_loop {J : Jn (AEnd × H)} {k : Nat} (hJ : rec_changes.F D (k + 4) J) (id pi : Nat) (hne : pi ≠ id) (b : List UInt8) (n : Nat) (hn : n ≤ 512) : ∀ (d i m : Nat) (acc : List Change) (o : Own) (r : Rd) (h : H), i + d = n → d < m → (d = 0 ∨ r.e = 0) → mayApp o 11 true = true → acc.length = i → h[pi]? = some (.arr [.ptr id 0] false) → RdAt h id r → r.ok →
    ∃ h' o', rec_changes.l0 J m (BL b) (.ptr pi 0) (CL acc o) (.int .i64 n) (.int .i64 i) h = some (match chRes b (acc ++ (rdL d r).1) (rdL d r).2 with | .ret _ => .ret (CL (acc ++ (rdL d r).1) o') | .pan v => .pan v, h')
  | 0, i, m + 1, acc, o, r, h, hi, _, _, ho, ha, hp, w, hk => by
    have : i = n := by omega
    subst this
    unfold rdL
    rw [List.append_nil]
    exact changes_end hJ hp w hk hne (by omega)
  | d + 1, i, m + 1, acc, o, r, h, hi, hm, h0, ho, ha, hp, w, hk => by
    have he : r.e = 0 := by omega
    rw [rec_changes.l0_eq hJ]
    obtain ⟨h1, e1, k1, w1⟩ := takeNum_den w hk
    have hk1 := (rdN_ok (m := 1048576) hk).1
    have p1 := k1.get hp (by simp; exact hne)
    obtain ⟨h2, hh2⟩ : ∃ g : H, g = h1 ++ [AObj.arr (⟨(rdN 1048576 r).1, 0, .none, 0, 0, []⟩ : Change).c false] := ⟨_, rfl⟩
    have k2 : Keep [] h1 h2 := hh2 ▸ Keep.app
    have c2 : h2[h1.length]? = some (.arr (⟨(rdN 1048576 r).1, 0, .none, 0, 0, []⟩ : Change).c false) := hh2 ▸ get_new
    have st : stN 11 (h1 ++ [AObj.arr [.int .i64 0, .int .u64 0, .int .i64 0, .int .i64 0, .str [], .str [], .int .i64 0, .str [], .int .i64 0, .int .i64 0, .str []] false]) (.ptr h1.length 0) (.agg (⟨(rdN 1048576 r).1, 0, .none, 0, 0, []⟩ : Change).c) = some (.undef, h2) := by
      rw [st_agg (n := 11) get_new (by rw [Change.c_len]; decide) (Change.c_len _) (Change.c_one _), set_new, hh2]
      simp
    have l1 := w1.lt
    have l2 := get_lt p1
    have s2 : TS id pi h1.length (rdN 1048576 r).2 ⟨(rdN 1048576 r).1, 0, .none, 0, 0, []⟩ h2 := ⟨k2.get p1 (by simp), c2, k2.rd w1 (by simp), hk1, hne, by omega, by omega⟩
    obtain ⟨h3, e3, k3, w3⟩ := wordR_den s2.w s2.ok
    have s3 := s2.read k3 w3 (rdW_ok s2.ok).1
    have q1 := rdW_lt (rdN 1048576 r).2
    generalize hx4 : (⟨(rdN 1048576 r).1, ⟨(rdW (rdN 1048576 r).2).1, by omega⟩, .none, 0, 0, []⟩ : Change) = x4
    have t3 : stN 1 h3 (.ptr h1.length 1) (.int .u64 (rdW (rdN 1048576 r).2).1) = some (.undef, h3.set h1.length (.arr x4.c false)) := by
      rw [st_int s3.c (by rw [Change.c_len]; decide), ← hx4]; rfl
    have s4 := s3.put (y := x4)
    have c4 : x4.c[1]? = some (.int .u64 (rdW (rdN 1048576 r).2).1) := by rw [← hx4]; rfl
    obtain ⟨h5, e5, k5, w5⟩ := wordR_den s4.w s4.ok
    have s5 := s4.read k5 w5 (rdW_ok s4.ok).1
    have q2 := rdW_lt (rdW (rdN 1048576 r).2).2
    have sh : bin .shl (.int .u64 ((rdW (rdW (rdN 1048576 r).2).2).1 : Int)) (.int .u64 32) = some (.int .u64 (((rdW (rdW (rdN 1048576 r).2).2).1 * 4294967296 : Nat) : Int)) := shl_u64 (a := (rdW (rdW (rdN 1048576 r).2).2).1) (k := 32) (kk := .u64) (by omega) (by omega)
    have orr : bin .or (.int .u64 ((rdW (rdN 1048576 r).2).1 : Int)) (.int .u64 (((rdW (rdW (rdN 1048576 r).2).2).1 * 4294967296 : Nat) : Int)) = some (.int .u64 (((rdW (rdN 1048576 r).2).1 + 4294967296 * (rdW (rdW (rdN 1048576 r).2).2).1 : Nat) : Int)) := or_add (n := (rdW (rdN 1048576 r).2).1) (a := (rdW (rdW (rdN 1048576 r).2).2).1) (k := 32) q1 (by omega)
    generalize hx6 : (⟨(rdN 1048576 r).1, fing (rdN 1048576 r).2 (rdW (rdN 1048576 r).2).2, .none, 0, 0, []⟩ : Change) = x6
    have t5 : stN 1 h5 (.ptr h1.length 1) (.int .u64 (((rdW (rdN 1048576 r).2).1 + 4294967296 * (rdW (rdW (rdN 1048576 r).2).2).1 : Nat) : Int)) = some (.undef, h5.set h1.length (.arr x6.c false)) := by
      rw [st_int s5.c (by rw [Change.c_len]; decide), ← hx6, ← hx4]; rfl
    have s6 := s5.put (y := x6)
    obtain ⟨h6, hh6⟩ : ∃ g, g = h5.set h1.length (.arr x6.c false) := ⟨_, rfl⟩
    rw [← hh6] at s6 t5
    have kk := kinds_keep h6
    have s7 := s6.read kk.nil (kk.rd s6.w (by simp)) s6.ok
    have gm : ((h6 ++ [AObj.arr [Fn1 n_rec_kinds_c1] false]) ++ [AObj.map (kindsM h6.length)])[h6.length + 1]? = some (.map (kindsM h6.length)) := by
      have := get_new (h := h6 ++ [AObj.arr [Fn1 n_rec_kinds_c1] false]) (x := .map (kindsM h6.length))
      simpa using this
    have ek := kinds_den h6
    generalize hH : ((h6 ++ [AObj.arr [Fn1 n_rec_kinds_c1] false]) ++ [AObj.map (kindsM h6.length)]) = h7 at kk s7 gm ek
    have lk := lk_kinds gm (rdN 1048576 r).1 false
    rw [show (AV.agg K0) = .agg [.list [] .cap, .list [] .cap, .nilFunc] from rfl] at lk
    rw [← hx6] at s7
    obtain ⟨V, nn, m2, h8, v1, v2, v3, v4, k8, s8⟩ := gets_den (z := h6.length) hJ (m0 := m) (m1 := k) (A := BL b) (B := CL acc o) (C := .int .i64 n) (E := .int .i64 i) s7
    obtain ⟨m3, rfl⟩ : ∃ m3, m2 = m3 + 1 := ⟨m2 - 1, by omega⟩
    have e8 := errR_den s8.w
    generalize hx9 : (⟨(rdN 1048576 r).1, fing (rdN 1048576 r).2 (rdW (rdN 1048576 r).2).2, (rdK (rdN 1048576 r).1 (rdW (rdW (rdN 1048576 r).2).2).2).1.1, (rdK (rdN 1048576 r).1 (rdW (rdW (rdN 1048576 r).2).2).2).1.2.1.1, (rdK (rdN 1048576 r).1 (rdW (rdW (rdN 1048576 r).2).2).2).1.2.1.2, (rdK (rdN 1048576 r).1 (rdW (rdW (rdN 1048576 r).2).2).2).1.2.2⟩ : Change) = x9 at s8
    generalize hr9 : (rdK (rdN 1048576 r).1 (rdW (rdW (rdN 1048576 r).2).2).2).2 = r9 at s8 e8
    have ech : rdCh r = (x9, r9) := by rw [← hx9, ← hr9]; rfl
    have eL : rdL (d + 1) r = (x9 :: (rdL d r9).1, (rdL d r9).2) := by
      rw [rdL, if_neg (by omega), ech]
    have elast : rec_changes.l1 J m (m3 + 1) (BL b) (.ptr pi 0) (CL acc o) (.ptr h1.length 0) (.int .i64 n) (.int .i64 i) V (.int .i64 nn) (.int .i64 nn) h8 = if r9.e = 0 then rec_changes.l0 J m (BL b) (.ptr pi 0) (CL (acc ++ [x9]) (.own 11)) (.int .i64 n) (.int .i64 ((i + 1 : Nat) : Int)) h8 else some (.pan brkR, h8) := by
      rw [rec_changes.l1_eq hJ]
      simp only [lssN, decide_eq_false (show ¬ nn < nn by omega), bind_some', condV_false, fAddr_ptr, ld_at s8.p, ptr0, canon_ptr, e8, retOr_ret, bin_eql, canon_bool, must_den]
      by_cases h9 : r9.e = 0
      · simp only [decide_eq_true (show ((r9.e : Int) = 0) by omega), if_true, retOr_ret, ldA_at s8.c, Change.agg, bind_some']
        rw [show mkRows 11 [.int .i64 0, .int .u64 0, .int .i64 0, .int .i64 0, .str [], .str [], .int .i64 0, .str [], .int .i64 0, .int .i64 0, .str []] 1 [(0, .agg x9.c)] = some (CL [x9] .cap) from rfl]
        simp only [bind_some', CL_ap ho (show acc.length ≤ 2 ^ 30 by omega), add1 i (by omega), if_pos h9]
      · simp only [decide_eq_false (show ¬ ((r9.e : Int) = 0) by omega), Bool.false_eq_true, if_false, retOr_pan, if_neg h9]
    have efin : ∃ h' o', rec_changes.l1 J m (m3 + 1) (BL b) (.ptr pi 0) (CL acc o) (.ptr h1.length 0) (.int .i64 n) (.int .i64 i) V (.int .i64 nn) (.int .i64 nn) h8 = some (match chRes b (acc ++ (rdL (d + 1) r).1) (rdL (d + 1) r).2 with | .ret _ => .ret (CL (acc ++ (rdL (d + 1) r).1) o') | .pan v => .pan v, h') := by
      rw [elast, eL]
      by_cases h9 : r9.e = 0
      · obtain ⟨h', o', e'⟩ := changes_loop hJ id pi hne b n hn d (i + 1) m (acc ++ [x9]) (.own 11) r9 h8 (by omega) (by omega) (.inr h9) rfl (by simp; omega) s8.p s8.w s8.ok
        rw [if_pos h9]
        refine ⟨h', o', ?_⟩
        rw [e']
        simp only [List.append_assoc, List.singleton_append]
      · rw [if_neg h9]
        refine ⟨h8, o, ?_⟩
        simp only [rdL_bad h9 d, chRes_bad h9]
    obtain ⟨h', o', efin⟩ := efin
    refine ⟨h', o', ?_⟩
    have i0 : i < n := by omega
    have c6 : x6.c[0]? = some (.int .i64 (rdN 1048576 r).1) := by rw [← hx6]; rfl
    rw [hx6] at s7
    simp only [lssN, decide_eq_true i0, bind_some', condV_true, ldA_at hp, ptr1, canonP, e1, retOr_ret, copy_int]
    rw [show mkAgg [.int .i64 0, .int .u64 0, .int .i64 0, .int .i64 0, .str [], .str [], .int .i64 0, .str [], .int .i64 0, .int .i64 0, .str []] [(0, 1, .int .i64 ((rdN 1048576 r).1 : Int))] = some (.agg (⟨(rdN 1048576 r).1, 0, .none, 0, 0, []⟩ : Change).c) from rfl]
    simp only [bind_some', st, fAddr_ptr, ld_at s2.p, ptr0, canon_ptr, e3, retOr_ret, u64_u32 _ q1, show 0 + 1 + 0 = 1 from rfl, t3, ld_at s4.c, c4, ld_at s4.p, e5, ld_at s5.c, eqO, eqb_self, whenB_true, u64_u32 _ q2, sh, orr, copy_int, t5, ek]
    simp only [ld_at s7.c, ld_at s6.c, c6, bind_some', eqO, eqb_self, whenB_true, lk, Bool.false_eq_true, if_false, fCell_agg, v1, v2]
    exact v4.trans efin
end Go.Proofs.YtdlnkfghgbddhaaGreat
