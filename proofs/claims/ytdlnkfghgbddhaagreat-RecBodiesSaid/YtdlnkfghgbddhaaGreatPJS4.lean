/- What the functions of the records' layer come to: 4: pens, numbers and texts as bytes. -/
import Derived.Test.YtdlnkfghgbddhaaGreatPJS3
import Derived.Test.YtdlnkfghgbddhaaGreatVa6
set_option linter.all false

open Go Go.Ve Go.Proofs
namespace Go.Proofs.YtdlnkfghgbddhaaGreat
set_option maxRecDepth 100000
set_option linter.all false

theorem ptr_pen (id : Nat) : aeq Tryz.prog 20 84 (.ptr id 0) .nilPtr = some false := by kernel_rfl
theorem ptr_rd (id : Nat) : aeq Tryz.prog 20 90 (.ptr id 0) .nilPtr = some false := by kernel_rfl
theorem eqv_tf : eqv true (some false) = some (.bool true) := rfl
theorem eqv_ff : eqv false (some false) = some (.bool false) := rfl

/-- A pen that has written these bytes. -/
def PenAt (h : H) (id : Nat) (b : List UInt8) : Prop := ∃ o, mayApp o 1 true = true ∧ h[id]? = some (.arr [BL b o] false)
theorem Keep.pen {ids : List Nat} {h h' : H} {id : Nat} {b : List UInt8} (k : Keep ids h h') (hr : PenAt h id b) (hn : id ∉ ids) : PenAt h' id b := hr.imp fun _ ho => ⟨ho.1, k.get ho.2 hn⟩
theorem PenAt.lt {h : H} {id : Nat} {b : List UInt8} (hr : PenAt h id b) : id < h.length := get_lt hr.choose_spec.2
theorem new_den (h : H) : ∃ h', D n_cur_New [] h = some (.ret (.ptr h.length 0), h') ∧ Keep [] h h' ∧ PenAt h' h.length [] := by
  refine ⟨h ++ [.arr [.list [] .cap] false], cur_New.den 1 ?_ rfl, .app, .cap, rfl, get_new⟩
  rw [cur_New.f_eq (cur_New.fx 1)]
  rw [show mkAgg [.list [] .cap] [] = some (.agg [.list [] .cap]) from rfl]
  simp only [bind_some', bx_agg (cs := [.list [] .cap]) rfl]
  rfl
theorem put_den (h : H) (id : Nat) (b l : List UInt8) (o : Own) (hp : PenAt h id b) (hl : b.length + l.length ≤ 2 ^ 40) : ∃ h', D n_cur_Pen_put [.ptr id 0, BL l o] h = some (.ret (.tuple []), h') ∧ Keep [id] h h' ∧ PenAt h' id (b ++ l) := by
  obtain ⟨o', ho, hp⟩ := hp
  have e1 := ldTake_list (off := 0) hp rfl
  have hp1 := get_set (y := .arr [AV.copy (BL b o')] false) hp
  refine ⟨_, cur_Pen_put.den 1 ?_ rfl, (Keep.set (by simp)).trans (.set (by simp)), .own 1, rfl, get_set hp1⟩
  rw [cur_Pen_put.f_eq (cur_Pen_put.fx 1)]
  simp only [ptr_pen, eqv_tf, bind_some', condV_true, nilOk_ptr, fAddr_ptr, e1, BL_app ho hl]
  have e2 := st_list (off := 0) (rows := (b ++ l).map byteRow) (o := .own 1) hp1 (by simp)
  rw [show (BL (b ++ l) (.own 1)) = .list ((b ++ l).map byteRow) (.own 1) from rfl]
  simp only [List.set_cons_zero] at e2 ⊢
  rw [e2]
  rfl
theorem penU_den (h : H) (id n : Nat) (b : List UInt8) (hp : PenAt h id b) (hn : n < 2 ^ 64) (hl : b.length + 10 ≤ 2 ^ 40) : ∃ h', D n_cur_Pen_U [.ptr id 0, .int .u64 n] h = some (.ret (.tuple []), h') ∧ Keep [id] h h' ∧ PenAt h' id (b ++ lebB n) := by
  have := lebB_10 hn
  obtain ⟨h', e, k, p⟩ := put_den h id b (lebB n) .no hp (by omega)
  refine ⟨h', cur_Pen_U.den 1 ?_ rfl, k, p⟩
  rw [cur_Pen_U.f_eq (cur_Pen_U.fx 1)]
  simp only [canon_int, leb_Put_den n hn, bind_some', retOr_ret, canon_ptr, BL_canon, e]
theorem penWord_den (h : H) (id n : Nat) (b : List UInt8) (hp : PenAt h id b) (hl : b.length + 10 ≤ 2 ^ 40) : ∃ h', D n_cur_Pen_Word [.ptr id 0, .int .u32 n] h = some (.ret (.tuple []), h') ∧ Keep [id] h h' ∧ PenAt h' id (b ++ wdB n) := by
  obtain ⟨h', e, k, p⟩ := put_den h id b (wdB n) .no hp (by simp [wdB]; omega)
  refine ⟨h', cur_Pen_Word.den 1 ?_ rfl, k, p⟩
  rw [cur_Pen_Word.f_eq (cur_Pen_Word.fx 1)]
  have s8 := shr_u32 (n := n) (k := 8) (kk := .u64) (by omega)
  have s16 := shr_u32 (n := n) (k := 16) (kk := .u64) (by omega)
  have s24 := shr_u32 (n := n) (k := 24) (kk := .u64) (by omega)
  rw [show (AV.int .u64 8) = .int .u64 ((8 : Nat) : Int) from rfl, show (AV.int .u64 16) = .int .u64 ((16 : Nat) : Int) from rfl, show (AV.int .u64 24) = .int .u64 ((24 : Nat) : Int) from rfl, s8, s16, s24]
  simp only [bind_some', cv_u8, row4, canon_ptr, BL_canon]
  rw [show [UInt8.ofNat n, UInt8.ofNat (n / 2 ^ 8), UInt8.ofNat (n / 2 ^ 16), UInt8.ofNat (n / 2 ^ 24)] = wdB n from rfl, e]
  simp only [bind_some', retOr_ret]
/-- A text's bytes, with their number ahead. -/
def txB (s : List UInt8) : List UInt8 := lebB s.length ++ s
theorem penText_den (h : H) (id : Nat) (b s : List UInt8) (hp : PenAt h id b) (hl : b.length + s.length + 20 ≤ 2 ^ 40) : ∃ h', D n_cur_Pen_Text [.ptr id 0, .str s] h = some (.ret (.tuple []), h') ∧ Keep [id] h h' ∧ PenAt h' id (b ++ txB s) := by
  have h10 := lebB_10 (n := s.length) (by omega)
  obtain ⟨h1, e1, k1, p1⟩ := penU_den h id s.length b hp (by omega) (by omega)
  obtain ⟨h2, e2, k2, p2⟩ := put_den h1 id (b ++ lebB s.length) s .no p1 (by simp; omega)
  refine ⟨h2, cur_Pen_Text.den 1 ?_ rfl, k1.trans k2, by rw [txB, ← List.append_assoc]; exact p2⟩
  rw [cur_Pen_Text.f_eq (cur_Pen_Text.fx 1)]
  simp only [lnStr_str, bind_some', cvInt_int, wrap_u64 (show (0 : Int) ≤ (s.length : Int) by omega) (show (s.length : Int) ≤ 18446744073709551615 by omega), canon_int, canon_ptr, e1, retOr_ret, BL_str, BL_canon, e2]
theorem penBytes_den (h : H) (id : Nat) (b : List UInt8) (hp : PenAt h id b) (hl : b.length ≤ 2 ^ 40) : D n_cur_Pen_Bytes [.ptr id 0] h = some (.ret (BL b (.own 1)), h) := by
  obtain ⟨o, ho, hp⟩ := hp
  refine cur_Pen_Bytes.den 1 ?_ rfl
  rw [cur_Pen_Bytes.f_eq (cur_Pen_Bytes.fx 1)]
  simp only [ptr_pen, eqv_ff, bind_some', condV_false, nilOk_ptr, fAddr_ptr, ld_at hp]
  rw [show ([BL b o])[0 + 0]? = some (BL b o) from rfl]
  simp only [bind_some', BL_canon, clone_byte b .no hl, retOr_ret]
theorem rNum_den (n : Nat) (hn : n < 2 ^ 63) (h : H) : D n_warrantorref02_Num [.int .i64 n] h = some (.ret (BL (lebB n) (.own 1)), h) := by
  refine warrantorref02_Num.den 1 (by simp) (h' := []) ?_ (by simp [AV.pure]) rfl
  rw [warrantorref02_Num.f_eq (warrantorref02_Num.fx 1)]
  simp only [cvInt_int, bind_some', wrap_u64 (show (0 : Int) ≤ (n : Int) by omega) (show (n : Int) ≤ 18446744073709551615 by omega), canon_int, rPut_den n (by omega), retOr_ret]
theorem rWord_den (n : Nat) (hn : n < 2 ^ 32) (h : H) : D n_warrantorref02_Word [.int .u32 n] h = some (.ret (BL (wdB n) .cap), h) := by
  refine warrantorref02_Word.den 1 (by simp) (h' := []) ?_ (by simp [AV.pure]) rfl
  rw [warrantorref02_Word.f_eq (warrantorref02_Word.fx 1)]
  have q (a b : Nat) (hb : b ≠ 0) (ha : a < 2 ^ 32) : bin .quo (.int .u32 (a : Int)) (.int .u32 (b : Int)) = some (.int .u32 ((a / b : Nat) : Int)) := by
    rw [bin_quo, if_neg (by omega)]
    have hd : a / b ≤ a := Nat.div_le_self a b
    have e := wrap_32 (BitVec.ofNat 32 (a / b))
    rw [BitVec.toNat_ofNat, Nat.mod_eq_of_lt (by omega)] at e
    rw [show ((a : Int).tdiv (b : Int)) = ((a / b : Nat) : Int) from rfl, e]
  have m (a b : Nat) (hb : b ≠ 0) : bin .rem (.int .u32 (a : Int)) (.int .u32 (b : Int)) = some (.int .u32 ((a % b : Nat) : Int)) := by
    rw [bin_rem, if_neg (by omega)]; rfl
  have u (a : Nat) : UInt8.ofNat (a % 256) = UInt8.ofNat a := by
    apply UInt8.toNat.inj
    rw [UInt8.toNat_ofNat', UInt8.toNat_ofNat']; omega
  rw [show (AV.int .u32 256) = .int .u32 ((256 : Nat) : Int) from rfl, show (AV.int .u32 65536) = .int .u32 ((65536 : Nat) : Int) from rfl, show (AV.int .u32 16777216) = .int .u32 ((16777216 : Nat) : Int) from rfl]
  have d1 : n / 256 ≤ n := Nat.div_le_self _ _
  have d2 : n / 65536 ≤ n := Nat.div_le_self _ _
  simp only [m _ _ (show 256 ≠ 0 by decide), q n _ (show 256 ≠ 0 by decide) hn, q n _ (show 65536 ≠ 0 by decide) hn, q n _ (show 16777216 ≠ 0 by decide) hn, bind_some', cv_u8, u, row4]
  rfl
theorem rText_den (s : List UInt8) (hl : s.length ≤ 2 ^ 38) (h : H) : D n_warrantorref02_Text [.str s] h = some (.ret (BL (txB s) (.own 1)), h) := by
  have h10 := lebB_10 (n := s.length) (by omega)
  refine warrantorref02_Text.den 1 (by simp) (h' := []) ?_ (by simp [AV.pure]) rfl
  rw [warrantorref02_Text.f_eq (warrantorref02_Text.fx 1)]
  simp only [lnStr_str, cvInt_int, bind_some', wrap_u64 (show (0 : Int) ≤ (s.length : Int) by omega) (show (s.length : Int) ≤ 18446744073709551615 by omega), canon_int, rPut_den s.length (by omega), retOr_ret, BL_str, BL_app (l := lebB s.length) (l' := s) (o := .own 1) (o' := .own 1) (owned := true) rfl (by omega)]
  rfl
end Go.Proofs.YtdlnkfghgbddhaaGreat
