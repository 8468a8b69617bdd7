import Derived.Test.YtdlnkfghgbddhaaGreatVb4
import Derived.Test.YtdlnkfghgbddhaaGreatVa6
import Derived.Test.YtdlnkfghgbddhaaGreatPJL
set_option linter.all false
open Go Go.Ve Go.Proofs
namespace Go.Proofs.YtdlnkfghgbddhaaGreat
set_option maxRecDepth 100000
set_option linter.all false
structure ES (id q z t : Nat) (r : Rd) (x : Change) (a : Alarm) (h : H) : Prop where
  d : DS id q z r x h
  a : h[t]? = some (.arr a.c false)
  ti : t ≠ id
  tq : t ≠ q
  tz : t ≠ z
theorem ES.num {id q z t : Nat} {r : Rd} {x : Change} {a : Alarm} {h : H} (s : ES id q z t r x a h) : ∃ h', D n_warrantorref02_Reader_Count [.ptr id 0, .int .i64 1048576] h = some (.ret (.int .i64 (rdN 1048576 r).1), h') ∧ Keep [id] h h' ∧ ES id q z t (rdN 1048576 r).2 x a h' := by
  obtain ⟨h', e, k, w⟩ := s.d.num
  exact ⟨h', e, k, w, k.get s.a (by simp; exact s.ti), s.ti, s.tq, s.tz⟩
theorem ES.text {id q z t : Nat} {r : Rd} {x : Change} {a : Alarm} {h : H} (s : ES id q z t r x a h) : ∃ h', D n_warrantorref02_Reader_Text [.ptr id 0, .int .i64 1048576] h = some (.ret (.str (rdT 1048576 r).1), h') ∧ Keep [id] h h' ∧ ES id q z t (rdT 1048576 r).2 x a h' := by
  obtain ⟨h', e, k, w⟩ := s.d.text
  exact ⟨h', e, k, w, k.get s.a (by simp; exact s.ti), s.ti, s.tq, s.tz⟩
theorem ES.put {id q z t : Nat} {r : Rd} {x : Change} {a b : Alarm} {h : H} (s : ES id q z t r x a h) : ES id q z t r x b (h.set t (.arr b.c false)) :=
  have k : Keep [t] h (h.set t (.arr b.c false)) := .set (by simp)
  ⟨⟨k.get s.d.c (by simp; exact fun e => s.tq e.symm), s.d.o.imp fun _ ho => k.get ho (by simp; exact fun e => s.tz e.symm), k.rd s.d.w (by simp; exact fun e => s.ti e.symm), s.d.ok, s.d.nq, s.d.nz, s.d.qz⟩, get_set s.a, s.ti, s.tq, s.tz⟩
theorem ES.setI {id q z t : Nat} {r : Rd} {x : Change} {a : Alarm} {h : H} (s : ES id q z t r x a h) (b : Alarm) (off : Nat) (v : Int) (ho : off < 6) (hy : a.c.set off (.int .i64 v) = b.c) : stN 1 h (.ptr t off) (.int .i64 v) = some (.undef, h.set t (.arr b.c false)) := by
  rw [st_int s.a (by rw [Alarm.c_len]; exact ho), hy]
theorem ES.setS {id q z t : Nat} {r : Rd} {x : Change} {a : Alarm} {h : H} (s : ES id q z t r x a h) (b : Alarm) (off : Nat) (v : List UInt8) (ho : off < 6) (hy : a.c.set off (.str v) = b.c) : stN 1 h (.ptr t off) (.str v) = some (.undef, h.set t (.arr b.c false)) := by
  rw [st_str s.a (by rw [Alarm.c_len]; exact ho), hy]
end Go.Proofs.YtdlnkfghgbddhaaGreat

open Go Go.Ve Go.Proofs
namespace Go.Proofs.YtdlnkfghgbddhaaGreat
set_option maxRecDepth 100000
set_option linter.all false
end Go.Proofs.YtdlnkfghgbddhaaGreat

open Go Go.Ve Go.Proofs
namespace Go.Proofs.YtdlnkfghgbddhaaGreat
set_option maxRecDepth 100000
set_option linter.all false
end Go.Proofs.YtdlnkfghgbddhaaGreat

open Go Go.Ve Go.Proofs
namespace Go.Proofs.YtdlnkfghgbddhaaGreat
set_option maxRecDepth 100000
set_option linter.all false
end Go.Proofs.YtdlnkfghgbddhaaGreat

open Go Go.Ve Go.Proofs
namespace Go.Proofs.YtdlnkfghgbddhaaGreat
set_option maxRecDepth 100000
set_option linter.all false
theorem two_mul8 {j : Nat} (h : j < 7) : bin .mul (.int .u8 2) (.int .u8 ((2 ^ j : Nat) : Int)) = some (.int .u8 ((2 ^ (j + 1) : Nat) : Int)) := by
  rcases (by omega : j = 0 ∨ j = 1 ∨ j = 2 ∨ j = 3 ∨ j = 4 ∨ j = 5 ∨ j = 6) with rfl | rfl | rfl | rfl | rfl | rfl | rfl <;> rfl
theorem xor_bit (b : UInt8) {j : Nat} (h : j < 8) : bin .xor (bv b) (.int .u8 ((2 ^ j : Nat) : Int)) = some (bv (UInt8.ofNat (b.toNat ^^^ 2 ^ j))) := by
  have key : ∀ (j : Fin 8) (n : Fin 256), IntKind.wrap .u8 (((BitVec.ofInt 8 (n.val : Int)) ^^^ (BitVec.ofInt 8 ((2 ^ j.val : Nat) : Int))).toNat : Int) = ((n.val ^^^ 2 ^ j.val : Nat) : Int) := by decide +kernel
  have hk := key ⟨j, h⟩ ⟨b.toNat, b.toNat_lt⟩
  rw [bin_xor]
  show some (AV.int .u8 (IntKind.wrap .u8 (((BitVec.ofInt 8 (b.toNat : Int)) ^^^ (BitVec.ofInt 8 ((2 ^ j : Nat) : Int))).toNat : Int))) = _
  rw [hk, bv_nat (xor_lt b h)]
theorem i64_rem (k n : Nat) (hn : 0 < n) : bin .rem (.int .i64 (k : Int)) (.int .i64 (n : Int)) = some (.int .i64 ((k % n : Nat) : Int)) := by
  rw [bin_rem, if_neg (by omega)]; rfl
theorem i64_quo (k n : Nat) (hn : 0 < n) (hk : k < 2 ^ 60) : bin .quo (.int .i64 (k : Int)) (.int .i64 (n : Int)) = some (.int .i64 ((k / n : Nat) : Int)) := by
  rw [bin_quo, if_neg (by omega)]
  show some (AV.int .i64 (IntKind.wrap .i64 ((k / n : Nat) : Int))) = _
  have hz := Nat.div_le_self k n
  generalize k / n = z at hz ⊢
  rw [wrap_i64 (by omega) (by omega)]
theorem u32_half (t : Nat) (ht : t < 2 ^ 32) : bin .quo (.int .u32 (t : Int)) (.int .u32 2) = some (.int .u32 ((t / 2 : Nat) : Int)) := by
  rw [w32_of ht, bin_quo, if_neg (by decide)]
  show some (AV.int .u32 (IntKind.wrap .u32 (((BitVec.ofNat 32 t).toNat / 2 : Nat) : Int))) = _
  rw [shr1_32, wrap_32, ← shr1_32, BitVec.toNat_ofNat, Nat.mod_eq_of_lt ht]
theorem u32_odd (t : Nat) : bin .rem (.int .u32 (t : Int)) (.int .u32 2) = some (.int .u32 ((t % 2 : Nat) : Int)) := by
  rw [bin_rem, if_neg (by decide)]; rfl
abbrev bvs (l : List UInt8) : List AV := l.map bv
abbrev TO (l : List UInt8) : H := [.arr (bvs l) false]
theorem bvs_set (l : List UInt8) (i : Nat) (b : UInt8) : (bvs l).set i (bv b) = bvs (l.set i b) := by simp [List.map_set]
theorem bvs_at {l : List UInt8} {i : Nat} (h : i < l.length) : (bvs l)[0 + i * 1]? = some (bv (l.getD i 0)) := by
  rw [Nat.zero_add, Nat.mul_one, List.getElem?_map, List.getElem?_eq_getElem h, List.getD_eq_getElem?_getD, List.getElem?_eq_getElem h]
  rfl
theorem slc_at {n i : Nat} (h : i < n) : ixSlice 1 (.slc 0 0 n 1) (.int .i64 (i : Int)) = some (.ptr 0 (0 + i * 1)) := by
  unfold ixSlice natOf
  simp [h]
theorem turn_in {J : Jn (AEnd × H)} {k : Nat} (hJ : ref03_Turn.F D k J) {m0 a i t q : Nat} {l : List UInt8} (hq : q < 8 * l.length) (hl : l.length ≤ 2 ^ 40) (ht : t < 2 ^ 32) (hi : i < 32) : ∀ (d j m : Nat), j + d = q % 8 → d < m →
    ref03_Turn.l1 J m0 m (.int .i64 (a : Int)) (.int .u32 (t : Int)) (.slc 0 0 l.length 1) (.int .i64 (i : Int)) (.int .i64 (q : Int)) (.int .u8 ((2 ^ j : Nat) : Int)) (.int .i64 (j : Int)) (TO l) = ref03_Turn.l0 J m0 (.int .i64 (a : Int)) (.int .u32 ((t / 2 : Nat) : Int)) (.slc 0 0 l.length 1) (.int .i64 ((i + 1 : Nat) : Int)) (TO (flipB l q))
  | 0, j, m + 1, hj, _ => by
    have hj : j = q % 8 := by omega
    subst hj
    have h8 : q / 8 < l.length := by omega
    have hm : q % 8 < 8 := Nat.mod_lt _ (by decide)
    have r8 := i64_rem q 8 (by decide)
    have q8 := i64_quo q 8 (by decide) (by omega)
    rw [show (((8 : Nat) : Int)) = 8 from rfl] at r8 q8
    rw [ref03_Turn.l1_eq hJ]
    simp only [r8, q8, bind_some', lssN, decide_eq_false (show ¬ q % 8 < q % 8 by omega), condV_false, slc_at h8]
    have g : (TO l)[0]? = some (.arr (bvs l) false) := rfl
    rw [ld_at g, bvs_at h8]
    simp only [bind_some', xor_bit _ hm, copy_int]
    rw [st_int g (by simp; exact h8), Nat.zero_add, Nat.mul_one, bvs_set]
    simp only [bind_some', u32_half t ht, add1 i (by omega)]
    rfl
  | d + 1, j, m + 1, hj, hm => by
    have h7 : j < 7 := by have := Nat.mod_lt q (show 0 < 8 by decide); omega
    have ih := turn_in hJ (m0 := m0) (a := a) hq hl ht hi d (j + 1) m (by omega) (by omega)
    have r8 := i64_rem q 8 (by decide)
    rw [show (((8 : Nat) : Int)) = 8 from rfl] at r8
    rw [ref03_Turn.l1_eq hJ]
    simp only [r8, bind_some', lssN, decide_eq_true (show j < q % 8 by omega), condV_true, two_mul8 h7, add1 j (by omega)]
    exact ih
theorem turn_loop {J : Jn (AEnd × H)} {k : Nat} (hJ : ref03_Turn.F D (k + 9) J) {a : Nat} (ha : a ≤ 2 ^ 50) : ∀ (d i m t : Nat) (l : List UInt8), i + d = 32 → d < m → t < 2 ^ 32 → l.length ≤ 2 ^ 40 →
    ref03_Turn.l0 J m (.int .i64 (a : Int)) (.int .u32 (t : Int)) (.slc 0 0 l.length 1) (.int .i64 (i : Int)) (TO l) = some (.ret (.slc 0 0 l.length 1), TO (turnL d i a l t))
  | 0, i, m + 1, t, l, hi, _, ht, hl => by
    rw [ref03_Turn.l0_eq hJ]
    simp only [bin_lss, decide_eq_false (show ¬ ((i : Int) < 32) by omega), bind_some', condV_false]
    rfl
  | d + 1, i, m + 1, t, l, hi, hm, ht, hl => by
    rw [ref03_Turn.l0_eq hJ, turnL]
    simp only [bin_lss, decide_eq_true (show ((i : Int) < 32) by omega), bind_some', condV_true, u32_odd, bin_eql]
    have skip : ref03_Turn.j0 J m (.int .i64 (a : Int)) (.int .u32 (t : Int)) (.slc 0 0 l.length 1) (.int .i64 (i : Int)) (.bool false) (TO l) = some (.ret (.slc 0 0 l.length 1), TO (turnL d (i + 1) a l (t / 2))) := by
      rw [ref03_Turn.j0_eq hJ]
      simp only [condV_false, u32_half t ht, bind_some', add1 i (by omega)]
      exact turn_loop hJ ha d (i + 1) m (t / 2) l (by omega) (by omega) (by omega) hl
    by_cases ho : t % 2 = 1
    · have hadd : bin .add (.int .i64 (a : Int)) (.int .i64 (i : Int)) = some (.int .i64 ((a + i : Nat) : Int)) := by
        rw [bin_add, wrap_i64 (by omega) (by omega)]; rfl
      have hmul : bin .mul (.int .i64 8) (.int .i64 (l.length : Int)) = some (.int .i64 ((8 * l.length : Nat) : Int)) := by
        rw [bin_mul, wrap_i64 (by omega) (by omega)]; rfl
      rw [decide_eq_true (show ((t % 2 : Nat) : Int) = 1 by omega)]
      simp only [condV_true, hadd, bind_some', lnSl, hmul, lssN]
      by_cases hq : a + i < 8 * l.length
      · rw [decide_eq_true hq, if_pos ⟨ho, hq⟩, ref03_Turn.j0_eq hJ]
        simp only [condV_true, hadd, bind_some']
        have e := turn_in hJ (m0 := m) (a := a) hq hl ht (show i < 32 by omega) ((a + i) % 8) 0 (k + 9) (by omega) (by have := Nat.mod_lt (a + i) (show 0 < 8 by decide); omega)
        refine Eq.trans e ?_
        have := turn_loop hJ ha d (i + 1) m (t / 2) (flipB l (a + i)) (by omega) (by omega) (by omega) (by rw [flipB_len]; exact hl)
        rw [flipB_len] at this
        exact this
      · rw [decide_eq_false hq, if_neg (fun h => hq h.2)]
        exact skip
    · rw [decide_eq_false (show ¬ ((t % 2 : Nat) : Int) = 1 by omega), if_neg (fun h => ho h.1)]
      simp only [condV_false]
      exact skip
theorem chunks_bv : ∀ (l : List UInt8), chunks 1 l.length (bvs l) = l.map byteRow
  | [] => rfl
  | b :: l => by
    show [bv b] :: chunks 1 l.length (bvs l) = byteRow b :: l.map byteRow
    rw [chunks_bv l]
    rfl
theorem den_frz0 {P : Program} {pol : Pol} {f : FuncId} {fn : Func} {c : Code} {args : List AV} {v w : AV} {h h' : H} (hx : pol.ext f = none) (hf : P.funcs[f]? = some fn) (hb : fn.body = some c) (hm : pol.mode f = 0) (hok : (resOk fn && Nat.ble args.length fn.ntmps && (pol.ann f).1.q.all pol.still) = true) (n : Nat) (hp : pureL args = true)
    (he : body P (pol.ann f).1 (den P pol) fn (pol.ann f).2 n c args [] = some (.ret v, h')) (hz : v.freeze h' = some w) (hw : w.pure = true) (hro : retOk fn (.ret w) = true) : den P pol f args h = some (.ret w, h) := by
  refine den_pure hx hf hb hm hok n ?_
  unfold retChk pureCall
  rw [mapM_pure hp]
  simp only [hp, if_true, he]
  rw [hz]
  simp only [Option.bind_some, hw, Bool.true_or, Bool.and_true, if_true, hro]
theorem turn_den (l : List UInt8) (a t : Nat) (hl : l.length ≤ 2 ^ 40) (ha : a ≤ 2 ^ 50) (ht : t < 2 ^ 32) (h : H) : D n_warrantorref03_Turn [BL l, .int .i64 (a : Int), .int .u32 (t : Int)] h = some (.ret (BL (turnL 32 0 a l t)), h) := by
  have ap : apObj 1 1 true ([] : H) (BL [] .cap) (BL l) = some (.slc 0 0 l.length 1, TO l) := by
    have e : (l.map byteRow).flatten.map AV.copyCell = bvs l := by
      induction l with
      | nil => rfl
      | cons b l ih =>
        have := ih (by simp at hl; omega)
        simp only [List.map_cons, List.flatten_cons, List.map_append, this]
        rfl
    unfold apObj
    simp only [List.map_nil, rowsOf, Option.bind_some, List.length_map, List.length_nil, List.nil_append, e]
    rw [if_pos ⟨by decide, by simp [byteRow], by omega, by omega⟩]
    rfl
  have key : ref03_Turn.f (ref03_Turn.JD (33 + 9)) (BL l) (.int .i64 (a : Int)) (.int .u32 (t : Int)) [] = some (.ret (.slc 0 0 l.length 1), TO (turnL 32 0 a l t)) := by
    rw [ref03_Turn.f_eq (ref03_Turn.fx _), row0, bind_some', ap, bind_some']
    exact turn_loop (ref03_Turn.fx _) ha 32 0 (33 + 9) t l (by omega) (by omega) ht hl
  refine den_frz0 (fn := Tryz.f29) (c := ref03_Turn.c) (v := .slc 0 0 l.length 1) (h' := TO (turnL 32 0 a l t)) (by kernel_rfl) Tryz.func29 (by kernel_rfl) (by kernel_rfl) (by kernel_rfl) (33 + 9) (by simp [pureL, AV.pure]) ?_ ?_ (by simp [AV.pure]) rfl
  · rw [show (pol.ann n_warrantorref03_Turn).1 = ref03_Turn.A by kernel_rfl, show (pol.ann n_warrantorref03_Turn).2 = ref03_Turn.an by kernel_rfl, body_real _ _ (by kernel_rfl)]
    exact key
  · have := chunks_bv (turnL 32 0 a l t)
    rw [turnL_len] at this
    simp only [AV.freeze, AV.freezeAgg, AV.freezeCell, List.getElem?_cons_zero, List.drop_zero, List.length_map, turnL_len, Nat.zero_add, Nat.mul_one, Nat.le_refl, if_true, this]
end Go.Proofs.YtdlnkfghgbddhaaGreat

open Go Go.Ve Go.Proofs
namespace Go.Proofs.YtdlnkfghgbddhaaGreat
set_option maxRecDepth 100000
set_option linter.all false
theorem frame_len {b : List UInt8} (h : b.length ≤ 2 ^ 30) : (frame b).length ≤ b.length + 20 := by
  have := txB_len (s := b) (by omega)
  unfold frame
  rw [List.length_append, wdB_len]
  omega
theorem fit_all {l : List Change} {m : Nat} (h : large l m = false) : ∀ x ∈ l, x.entry.fit := fun x hx => Entry.fit_of ((large_fit h).2 x hx)
end Go.Proofs.YtdlnkfghgbddhaaGreat

open Go Go.Ve Go.Proofs
namespace Go.Proofs.YtdlnkfghgbddhaaGreat
set_option maxRecDepth 100000
set_option linter.all false
theorem get_is {b : List UInt8} {l : List Change} {n e : Nat} (hb : b.length ≤ 2 ^ 32) (hg : getOf b = (l, n, e)) (h : H) : ∃ o, D n_rec_Get [BL b] h = some (.ret (.tuple [CL l o, .int .i64 n, .int .i64 e]), h) := by
  obtain ⟨o, he⟩ := get_den b hb h
  rw [hg] at he
  exact ⟨o, he⟩
theorem cuts_law (l : List Change) (n a : Int) (t : Nat) (ht : t < 2 ^ 32) (h : H) : D n_warrantorlaw27_RecCuts [CL l, .int .i64 n, .int .i64 a, .int .u32 (t : Int)] h = some (.ret (.bool true), h) := by
  have l6 := large_den l 60 (by decide)
  rw [show (((60 : Nat) : Int)) = 60 from rfl] at l6
  have j2 : batch l = true → law27_RecCuts.j2 (law27_RecCuts.JD 1) (CL l) (.int .i64 a) (.int .u32 (t : Int)) (BL (frame (bodyB l)) (.own 1)) [] = some (.ret (.bool true), []) := by
    intro hb
    have lb := bodyB_len hb
    rw [law27_RecCuts.j2_eq (law27_RecCuts.fx 1)]
    have lv := lebB_10 (n := (bodyB l).length) (by omega)
    have hfl : (frame (bodyB l)).length = (lebB (bodyB l).length).length + ((bodyB l).length + 4) := by rw [frame, txB]; simp [wdB]
    have hturn := fun a => getOf_turned (b := bodyB l) (by omega) (a := a) (t := BitVec.ofNat 32 t)
    have htn : (BitVec.ofNat 32 t).toNat = t := by rw [BitVec.toNat_ofNat, Nat.mod_eq_of_lt ht]
    rw [htn] at hturn
    have eb := rbody_den l hb []
    generalize bodyB l = B at *
    generalize frame B = F at *
    generalize (lebB B.length).length = V at *
    have m8 : bin .mul (.int .i64 8) (.int .i64 ((B.length : Int) + 4)) = some (.int .i64 (8 * ((B.length : Int) + 4))) := by rw [bin_mul, wrap_i64 (by omega) (by omega)]
    have a4 : bin .add (.int .i64 (B.length : Int)) (.int .i64 4) = some (.int .i64 ((B.length : Int) + 4)) := by rw [bin_add, wrap_i64 (by omega) (by omega)]
    have s32 : bin .sub (.int .i64 (8 * ((B.length : Int) + 4))) (.int .i64 32) = some (.int .i64 (8 * ((B.length : Int) + 4) - 32)) := by rw [bin_sub, wrap_i64 (by omega) (by omega)]
    have j6t : law27_RecCuts.j6 (law27_RecCuts.JD 1) (.int .i64 a) (.int .u32 (t : Int)) (BL F (.own 1)) (.int .i64 (8 * ((B.length : Int) + 4))) (.bool true) [] = some (.ret (.bool true), []) := by
      rw [law27_RecCuts.j6_eq (law27_RecCuts.fx 1)]
      rfl
    simp only [canon_list, eb, bind_some', retOr_ret, BL_len, a4, m8, bin_eql]
    by_cases h0 : (t : Int) = 0
    · simp only [decide_eq_true h0, condV_true]
      exact j6t
    · simp only [decide_eq_false h0, condV_false, bin_lss, bind_some']
      by_cases ha : a < 0
      · simp only [decide_eq_true ha, condV_true]
        exact j6t
      · simp only [decide_eq_false ha, condV_false, s32, bind_some', bin_gtr]
        by_cases hg : a > 8 * ((B.length : Int) + 4) - 32
        · rw [decide_eq_true hg]
          exact j6t
        · rw [decide_eq_false hg, law27_RecCuts.j6_eq (law27_RecCuts.fx 1), condV_false, law27_RecCuts.j5_eq (law27_RecCuts.fx 1)]
          obtain ⟨k, rfl⟩ := Int.eq_ofNat_of_zero_le (show 0 ≤ a by omega)
          have p1 : bin .mul (.int .i64 8) (.int .i64 (F.length : Int)) = some (.int .i64 (8 * (F.length : Int))) := by rw [bin_mul, wrap_i64 (by omega) (by omega)]
          have p2 : bin .sub (.int .i64 (8 * (F.length : Int))) (.int .i64 (8 * ((B.length : Int) + 4))) = some (.int .i64 (8 * (F.length : Int) - 8 * ((B.length : Int) + 4))) := by rw [bin_sub, wrap_i64 (by omega) (by omega)]
          have p3 : bin .add (.int .i64 (8 * (F.length : Int) - 8 * ((B.length : Int) + 4))) (.int .i64 (k : Int)) = some (.int .i64 ((8 * V + k : Nat) : Int)) := by
            rw [bin_add, wrap_i64 (by omega) (by omega)]
            congr 2
            omega
          have hlen : (turnL 32 0 (8 * V + k) F t).length = F.length := turnL_len ..
          obtain ⟨o, eg⟩ := get_is (by rw [hlen]; omega) (hturn (8 * V + k) (fun e => h0 (by
            have := congrArg BitVec.toNat e
            rw [htn] at this
            rw [this]; rfl)) (by omega) (by omega)) ([] : H)
          simp only [BL_len, bind_some', p1, p2, p3, BL_canon, canon_int, turn_den F (8 * V + k) t (by omega) (by omega) ht, retOr_ret, eg, exTuple_eq, List.getElem?_cons_zero, List.getElem?_cons_succ, bin_eql, copy_bool]
          rfl
  have j0 : large l 60 = false → batch l = true → law27_RecCuts.j0 (law27_RecCuts.JD 1) (CL l) (.int .i64 n) (.int .i64 a) (.int .u32 (t : Int)) [] = some (.ret (.bool true), []) := by
    intro hl hb
    have lb := bodyB_len hb
    have lf := frame_len (b := bodyB l) (by omega)
    rw [law27_RecCuts.j0_eq (law27_RecCuts.fx 1)]
    have j3f : law27_RecCuts.j3 (law27_RecCuts.JD 1) (CL l) (.int .i64 n) (.int .i64 a) (.int .u32 (t : Int)) (BL (frame (bodyB l)) (.own 1)) (.bool false) [] = some (.ret (.bool true), []) := by
      rw [law27_RecCuts.j3_eq (law27_RecCuts.fx 1), condV_false]
      exact j2 hb
    simp only [canon_list, rput_den l hb, bind_some', retOr_ret, lives27_den, not_bool, Bool.not_true, condV_false, bin_geq]
    by_cases h0 : n ≥ 0
    · obtain ⟨k, rfl⟩ := Int.eq_ofNat_of_zero_le h0
      simp only [decide_eq_true h0, condV_true, BL_len, bind_some', lssN]
      by_cases hk : k < (frame (bodyB l)).length
      · rw [decide_eq_true hk, law27_RecCuts.j3_eq (law27_RecCuts.fx 1)]
        obtain ⟨o, eg⟩ := get_is (by rw [List.length_take]; omega) (getOf_cut (b := bodyB l) (by omega) hk) ([] : H)
        simp only [condV_true, BL_to (Nat.le_of_lt hk), bind_some', BL_canon, eg, retOr_ret, exTuple_eq, List.getElem?_cons_zero, List.getElem?_cons_succ, bin_neq, CL_len, List.length_nil]
        rw [show decide (((10 : Nat) : Int) ≠ 10) = false by decide, show decide (((0 : Nat) : Int) ≠ 0) = false by decide]
        simp only [condV_false]
        rw [law27_RecCuts.j4_eq (law27_RecCuts.fx 1), condV_false]
        exact j2 hb
      · rw [decide_eq_false hk]
        exact j3f
    · simp only [decide_eq_false h0, condV_false]
      exact j3f
  refine law27_RecCuts.den 1 (by simp [pureL, AV.pure]) (h' := []) ?_ rfl rfl
  rw [law27_RecCuts.f_eq (law27_RecCuts.fx 1)]
  have j1t : law27_RecCuts.j1 (law27_RecCuts.JD 1) (CL l) (.int .i64 n) (.int .i64 a) (.int .u32 (t : Int)) (.bool true) [] = some (.ret (.bool true), []) := by
    rw [law27_RecCuts.j1_eq (law27_RecCuts.fx 1)]
    simp only [condV_true, lives27_den, bind_some', retOr_ret]
  simp only [canon_list, canon_int, l6, bind_some', retOr_ret]
  cases hl : large l 60 with
  | true => simp only [condV_true]; exact j1t
  | false =>
    have ql := (large_fit hl).1
    simp only [condV_false, rbatch_den l (by omega) (fit_all hl), bind_some', retOr_ret, not_bool]
    cases hb : batch l with
    | false => exact j1t
    | true =>
      rw [law27_RecCuts.j1_eq (law27_RecCuts.fx 1), Bool.not_true, condV_false]
      exact j0 hl hb
end Go.Proofs.YtdlnkfghgbddhaaGreat
