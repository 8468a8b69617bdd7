import Derived.Test.YtdlnkfghgbddhaaGreatVa5
set_option linter.all false
namespace Go.Ve
open Go
def flipB (l : List UInt8) (k : Nat) : List UInt8 := l.set (k / 8) (UInt8.ofNat ((l.getD (k / 8) 0).toNat ^^^ 2 ^ (k % 8)))
def turnL : Nat → Nat → Nat → List UInt8 → Nat → List UInt8
  | 0, _, _, l, _ => l
  | d + 1, i, a, l, t => turnL d (i + 1) a (if t % 2 = 1 ∧ a + i < 8 * l.length then flipB l (a + i) else l) (t / 2)
@[simp] theorem flipB_len (l : List UInt8) (k : Nat) : (flipB l k).length = l.length := by simp [flipB]
@[simp] theorem turnL_len : ∀ (d i a : Nat) (l : List UInt8) (t : Nat), (turnL d i a l t).length = l.length
  | 0, _, _, _, _ => rfl
  | d + 1, i, a, l, t => by
    rw [turnL, turnL_len d]
    split <;> simp
theorem xor_lt (x : UInt8) {j : Nat} (hj : j < 8) : x.toNat ^^^ 2 ^ j < 256 := by
  have h1 : x.toNat < 2 ^ 8 := x.toNat_lt
  have h2 : 2 ^ j < 2 ^ 8 := Nat.pow_lt_pow_right (by decide) hj
  exact Nat.xor_lt_two_pow h1 h2
theorem bitAt_flip {l : List UInt8} {k : Nat} (hk : k < 8 * l.length) (j : Nat) : bitAt (flipB l k) j = (bitAt l j ^^ decide (j = k)) := by
  have hq : k / 8 < l.length := by omega
  have hm : k % 8 < 8 := Nat.mod_lt _ (by decide)
  unfold bitAt flipB
  by_cases h : j / 8 = k / 8
  · rw [h]
    have e1 : (l.set (k / 8) (UInt8.ofNat ((l.getD (k / 8) 0).toNat ^^^ 2 ^ (k % 8)))).getD (k / 8) 0 = UInt8.ofNat ((l.getD (k / 8) 0).toNat ^^^ 2 ^ (k % 8)) := by
      rw [List.getD_eq_getElem?_getD, List.getElem?_set_self hq]
      rfl
    rw [e1, toNat_lt (xor_lt _ hm), Nat.testBit_xor, Nat.testBit_two_pow]
    congr 1
    apply decide_eq_decide.mpr
    omega
  · have e1 : (l.set (k / 8) (UInt8.ofNat ((l.getD (k / 8) 0).toNat ^^^ 2 ^ (k % 8)))).getD (j / 8) 0 = l.getD (j / 8) 0 := by
      rw [List.getD_eq_getElem?_getD, List.getElem?_set_ne (fun e => h e.symm), List.getD_eq_getElem?_getD]
    rw [e1, decide_eq_false (show ¬ j = k from fun e => h (by rw [e])), Bool.xor_false]
theorem bitAt_turnL : ∀ (d i a : Nat) (l : List UInt8) (t j : Nat), t < 2 ^ d → j < 8 * l.length → bitAt (turnL d i a l t) j = (bitAt l j ^^ (decide (a + i ≤ j) && t.testBit (j - (a + i))))
  | 0, i, a, l, t, j, ht, hj => by
    have : t = 0 := by simpa using ht
    subst this
    simp [turnL]
  | d + 1, i, a, l, t, j, ht, hj => by
    rw [turnL]
    have hl : (if t % 2 = 1 ∧ a + i < 8 * l.length then flipB l (a + i) else l).length = l.length := by split <;> simp
    rw [bitAt_turnL d (i + 1) a _ (t / 2) j (by omega) (by rw [hl]; exact hj)]
    rcases Nat.lt_trichotomy j (a + i) with h | h | h
    · rw [decide_eq_false (show ¬ a + (i + 1) ≤ j by omega), decide_eq_false (show ¬ a + i ≤ j by omega), Bool.false_and, Bool.false_and, Bool.xor_false, Bool.xor_false]
      split
      · rename_i hc
        rw [bitAt_flip hc.2, decide_eq_false (show ¬ j = a + i by omega), Bool.xor_false]
      · rfl
    · subst h
      rw [decide_eq_false (show ¬ a + (i + 1) ≤ a + i by omega), decide_eq_true (Nat.le_refl (a + i)), Bool.false_and, Bool.xor_false, Nat.sub_self, Bool.true_and, Nat.testBit_zero]
      by_cases ho : t % 2 = 1
      · rw [if_pos ⟨ho, hj⟩, bitAt_flip hj, decide_eq_true rfl, decide_eq_true ho]
      · rw [if_neg (fun e => ho e.1), decide_eq_false ho, Bool.xor_false]
    · rw [decide_eq_true (show a + (i + 1) ≤ j by omega), decide_eq_true (show a + i ≤ j by omega), Bool.true_and, Bool.true_and]
      have e : t.testBit (j - (a + i)) = (t / 2).testBit (j - (a + (i + 1))) := by
        rw [show j - (a + i) = (j - (a + (i + 1))) + 1 by omega, Nat.testBit_succ]
      rw [e]
      split
      · rename_i hc
        rw [bitAt_flip hc.2, decide_eq_false (show ¬ j = a + i by omega), Bool.xor_false]
      · rfl
theorem bitAt_turn (a : Nat) (l : List UInt8) (t : BitVec 32) (j : Nat) (hj : j < 8 * l.length) : bitAt (turnL 32 0 a l t.toNat) j = (bitAt l j ^^ burst a t j) := by
  rw [bitAt_turnL 32 0 a l t.toNat j t.isLt hj, Nat.add_zero]
  congr 1
  unfold burst
  congr 1
  by_cases h : j < a + 32
  · rw [decide_eq_true h, Bool.true_and]
  · rw [decide_eq_false h, Bool.false_and]
    exact Nat.testBit_lt_two_pow (Nat.lt_of_lt_of_le t.isLt (Nat.pow_le_pow_right (by decide) (by omega)))
theorem byte_bits {x y : UInt8} (h : ∀ j, j < 8 → x.toNat.testBit j = y.toNat.testBit j) : x = y := by
  apply UInt8.toNat_inj.mp
  apply Nat.eq_of_testBit_eq
  intro i
  rcases Nat.lt_or_ge i 8 with hi | hi
  · exact h i hi
  · rw [Nat.testBit_lt_two_pow (Nat.lt_of_lt_of_le x.toNat_lt (Nat.pow_le_pow_right (n := 2) (by decide) hi)), Nat.testBit_lt_two_pow (Nat.lt_of_lt_of_le y.toNat_lt (Nat.pow_le_pow_right (n := 2) (by decide) hi))]
theorem take_bits {l l' : List UInt8} {p : Nat} (hl : l'.length = l.length) (h : ∀ k, k < 8 * p → k < 8 * l.length → bitAt l' k = bitAt l k) : l'.take p = l.take p := by
  apply List.ext_getElem?
  intro i
  rw [List.getElem?_take, List.getElem?_take]
  by_cases hi : i < p
  · rw [if_pos hi, if_pos hi]
    by_cases hi2 : i < l.length
    · rw [List.getElem?_eq_getElem hi2, List.getElem?_eq_getElem (by omega)]
      congr 1
      apply byte_bits
      intro j hj
      have := h (8 * i + j) (by omega) (by omega)
      unfold bitAt at this
      rw [show (8 * i + j) / 8 = i by omega, show (8 * i + j) % 8 = j by omega, List.getD_eq_getElem?_getD, List.getD_eq_getElem?_getD, List.getElem?_eq_getElem hi2, List.getElem?_eq_getElem (by omega)] at this
      exact this
    · rw [List.getElem?_eq_none (by omega), List.getElem?_eq_none (by omega)]
  · rw [if_neg hi, if_neg hi]
theorem lebGo_cut : ∀ (n i m k : Nat), n * 128 ^ i < 2 ^ 64 → (0 < i → 0 < n) → k < (lebB n).length → lebGo i m ((lebB n).take k) = (0, 0, 10) := by
  intro n
  induction n using Nat.strongRecOn with
  | _ n ih =>
    intro i m k h h0 hk
    by_cases hn : n < 128
    · rw [lebB_small hn] at hk ⊢
      have : k = 0 := by simpa using hk
      subst this
      rfl
    · rw [lebB_big hn] at hk ⊢
      cases k with
      | zero => rfl
      | succ k =>
        have hb : n % 128 + 128 < 256 := by omega
        rw [List.take_succ_cons]
        simp only [lebGo, toNat_lt hb]
        have hi9 : i < 9 := by
          rcases Nat.lt_or_ge i 9 with h8 | h8
          · exact h8
          · exfalso
            have e : (128 : Nat) ^ 9 ≤ 128 ^ i := Nat.pow_le_pow_right (by decide) h8
            have e2 : 128 * 128 ^ 9 ≤ n * 128 ^ i := Nat.mul_le_mul (by omega) e
            omega
        rw [if_neg (by omega), if_neg (by omega)]
        have h2 : n / 128 * 128 ^ (i + 1) ≤ n * 128 ^ i := by
          have e : n / 128 * 128 ≤ n := Nat.div_mul_le_self n 128
          calc n / 128 * 128 ^ (i + 1) = n / 128 * 128 * 128 ^ i := by rw [Nat.pow_succ, Nat.mul_comm (128 ^ i), Nat.mul_assoc]
            _ ≤ n * 128 ^ i := Nat.mul_le_mul_right _ e
        exact ih (n / 128) (by omega) (i + 1) _ k (by omega) (by omega) (by simp at hk; omega)
theorem lebG_cut {n k : Nat} (hn : n < 2 ^ 64) (hk : k < (lebB n).length) : lebG ((lebB n).take k) = (0, 0, 10) := lebGo_cut n 0 0 k (by simpa using hn) (by omega) hk
end Go.Ve
