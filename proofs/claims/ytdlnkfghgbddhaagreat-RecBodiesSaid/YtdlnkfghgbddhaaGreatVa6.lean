/- VE: words of bits. -/
import Derived.Test.YtdlnkfghgbddhaaGreatVa5
set_option linter.all false

namespace Go.Ve
open Go

abbrev w32 (c : BitVec 32) : AV := .int .u32 (c.toNat : Int)
abbrev w64 (c : BitVec 64) : AV := .int .u64 (c.toNat : Int)
theorem ofInt32 (c : BitVec 32) : BitVec.ofInt 32 (c.toNat : Int) = c := by simp
theorem ofInt64 (c : BitVec 64) : BitVec.ofInt 64 (c.toNat : Int) = c := by simp
theorem wrap_32 (c : BitVec 32) : IntKind.wrap .u32 (c.toNat : Int) = (c.toNat : Int) := by
  have := c.isLt
  simp [IntKind.wrap, IntKind.bits, IntKind.signed]; omega
theorem wrap_64 (c : BitVec 64) : IntKind.wrap .u64 (c.toNat : Int) = (c.toNat : Int) := by
  have := c.isLt
  simp [IntKind.wrap, IntKind.bits, IntKind.signed]; omega
theorem and_32 (c d : BitVec 32) : bin .and (w32 c) (w32 d) = some (w32 (c &&& d)) := by
  rw [bin_and]
  show some (AV.int .u32 (IntKind.wrap .u32 ((BitVec.ofInt 32 (c.toNat : Int) &&& BitVec.ofInt 32 (d.toNat : Int)).toNat : Int))) = _
  rw [ofInt32, ofInt32, wrap_32]
theorem xor_32 (c d : BitVec 32) : bin .xor (w32 c) (w32 d) = some (w32 (c ^^^ d)) := by
  rw [bin_xor]
  show some (AV.int .u32 (IntKind.wrap .u32 ((BitVec.ofInt 32 (c.toNat : Int) ^^^ BitVec.ofInt 32 (d.toNat : Int)).toNat : Int))) = _
  rw [ofInt32, ofInt32, wrap_32]
theorem or_32 (c d : BitVec 32) : bin .or (w32 c) (w32 d) = some (w32 (c ||| d)) := by
  rw [bin_or]
  show some (AV.int .u32 (IntKind.wrap .u32 ((BitVec.ofInt 32 (c.toNat : Int) ||| BitVec.ofInt 32 (d.toNat : Int)).toNat : Int))) = _
  rw [ofInt32, ofInt32, wrap_32]
theorem or_64 (c d : BitVec 64) : bin .or (w64 c) (w64 d) = some (w64 (c ||| d)) := by
  rw [bin_or]
  show some (AV.int .u64 (IntKind.wrap .u64 ((BitVec.ofInt 64 (c.toNat : Int) ||| BitVec.ofInt 64 (d.toNat : Int)).toNat : Int))) = _
  rw [ofInt64, ofInt64, wrap_64]
theorem not_32 (c : BitVec 32) : unOp .xor (w32 c) = some (w32 (~~~ c)) := by
  show some (AV.int .u32 (IntKind.wrap .u32 ((BitVec.ofInt 32 (4294967295 : Int) ^^^ BitVec.ofInt 32 (c.toNat : Int)).toNat : Int))) = _
  rw [ofInt32, wrap_32]
  rw [show BitVec.ofInt 32 (4294967295 : Int) = BitVec.allOnes 32 by decide, BitVec.allOnes_xor]
theorem neg_32 (c : BitVec 32) : unOp .neg (w32 c) = some (w32 (-c)) := by
  rw [unOp_neg]
  congr 2
  have := c.isLt
  rw [BitVec.toNat_neg]
  simp [IntKind.wrap, IntKind.bits, IntKind.signed]
  omega
theorem w32_of {n : Nat} (h : n < 2 ^ 32) : AV.int .u32 (n : Int) = w32 (BitVec.ofNat 32 n) := by
  rw [w32, BitVec.toNat_ofNat, Nat.mod_eq_of_lt h]
theorem w64_of {n : Nat} (h : n < 2 ^ 64) : AV.int .u64 (n : Int) = w64 (BitVec.ofNat 64 n) := by
  rw [w64, BitVec.toNat_ofNat, Nat.mod_eq_of_lt h]

/-- One bit of a sum's register. -/
def crcS (c : BitVec 32) : BitVec 32 := (c >>> 1) ^^^ (if c.toNat % 2 = 1 then 2197175160#32 else 0#32)
def crcN : Nat → BitVec 32 → BitVec 32
  | 0, c => c
  | n + 1, c => crcN n (crcS c)
def byte32 (b : UInt8) : BitVec 32 := BitVec.ofNat 32 b.toNat
def crcL (c : BitVec 32) : List UInt8 → BitVec 32
  | [] => c
  | b :: l => crcL (crcN 8 (c ^^^ byte32 b)) l
/-- The sum of bytes. -/
def crcB (l : List UInt8) : BitVec 32 := ~~~ crcL (~~~ 0#32) l
theorem and_one_32 (c : BitVec 32) : c &&& 1#32 = if c.toNat % 2 = 1 then 1#32 else 0#32 := by
  apply BitVec.eq_of_toNat_eq
  rw [BitVec.toNat_and]
  show c.toNat &&& 1 = _
  rw [Nat.and_one_is_mod]
  split
  · rename_i h; rw [h]; rfl
  · rename_i h; rw [show c.toNat % 2 = 0 by omega]; rfl
theorem poly_and (c : BitVec 32) : 2197175160#32 &&& -(c &&& 1#32) = if c.toNat % 2 = 1 then 2197175160#32 else 0#32 := by
  rw [and_one_32]
  split <;> decide
theorem shr1_32 (c : BitVec 32) : ((c.toNat / 2 : Nat) : Int) = ((c >>> 1).toNat : Int) := by
  rw [BitVec.toNat_ushiftRight, Nat.shiftRight_eq_div_pow]
theorem shr1_32' (c : BitVec 32) : c.toNat / 2 = (c >>> 1).toNat := by
  rw [BitVec.toNat_ushiftRight, Nat.shiftRight_eq_div_pow]
theorem sub_all (c : BitVec 32) : bin .sub (.int .u32 4294967295) (w32 c) = some (w32 (~~~ c)) := by
  rw [bin_sub]
  congr 2
  have := c.isLt
  rw [BitVec.toNat_not]
  simp [IntKind.wrap, IntKind.bits, IntKind.signed]
  omega
theorem crcN_succ : ∀ (n : Nat) (c : BitVec 32), crcN (n + 1) c = crcS (crcN n c)
  | 0, _ => rfl
  | n + 1, c => crcN_succ n (crcS c)
theorem xor_mod (c d : BitVec 32) : (c ^^^ d).toNat % 2 = 1 ↔ c.toNat % 2 ≠ d.toNat % 2 := by
  rw [BitVec.toNat_xor]
  have h1 : (c.toNat ^^^ d.toNat).testBit 0 = (c.toNat.testBit 0 ^^ d.toNat.testBit 0) := Nat.testBit_xor ..
  simp only [Nat.testBit_zero] at h1
  have h2 := Nat.mod_two_eq_zero_or_one c.toNat
  have h3 := Nat.mod_two_eq_zero_or_one d.toNat
  have h4 := Nat.mod_two_eq_zero_or_one (c.toNat ^^^ d.toNat)
  rcases h2 with h2 | h2 <;> rcases h3 with h3 | h3 <;> rcases h4 with h4 | h4 <;> simp [h2, h3, h4] at h1 ⊢
theorem crcS_xor (c d : BitVec 32) : crcS (c ^^^ d) = (c >>> 1) ^^^ (if c.toNat % 2 ≠ d.toNat % 2 then 2197175160#32 else 0#32) ^^^ (d >>> 1) := by
  unfold crcS
  rw [BitVec.ushiftRight_xor_distrib]
  by_cases h : c.toNat % 2 ≠ d.toNat % 2
  · rw [if_pos ((xor_mod c d).2 h), if_pos h, BitVec.xor_assoc, BitVec.xor_assoc]
    congr 1
    rw [BitVec.xor_comm]
  · rw [if_neg (fun e => h ((xor_mod c d).1 e)), if_neg h]
    simp
end Go.Ve

/- VE: heaps that keep what they hold; readers of bytes, words. -/
namespace Go.Ve
open Go

/-- What stands in a heap is there later, but for some objects. -/
structure Keep (ids : List Nat) (h h' : H) : Prop where
  len : h.length ≤ h'.length
  same : ∀ j, j < h.length → j ∉ ids → h'[j]? = h[j]?
theorem Keep.refl (ids : List Nat) (h : H) : Keep ids h h := ⟨Nat.le_refl _, fun _ _ _ => rfl⟩
theorem Keep.trans {ids : List Nat} {h h' h'' : H} (k : Keep ids h h') (l : Keep ids h' h'') : Keep ids h h'' :=
  ⟨Nat.le_trans k.len l.len, fun j hj hn => by rw [l.same j (Nat.lt_of_lt_of_le hj k.len) hn, k.same j hj hn]⟩
theorem Keep.mono {ids ids' : List Nat} {h h' : H} (k : Keep ids h h') (hs : ∀ j, j ∈ ids → j ∈ ids') : Keep ids' h h' :=
  ⟨k.len, fun j hj hn => k.same j hj fun hm => hn (hs j hm)⟩
theorem Keep.nil {ids : List Nat} {h h' : H} (k : Keep [] h h') : Keep ids h h' := k.mono (fun _ hj => nomatch hj)
theorem Keep.set {ids : List Nat} {h : H} {id : Nat} {x : AObj} (hi : id ∈ ids) : Keep ids h (h.set id x) :=
  ⟨by simp, fun j _ hn => by rw [List.getElem?_set_ne (fun e => hn (by rw [← e]; exact hi))]⟩
theorem Keep.app {ids : List Nat} {h x : H} : Keep ids h (h ++ x) :=
  ⟨by simp, fun j hj _ => List.getElem?_append_left hj⟩
theorem Keep.drop {ids : List Nat} {id : Nat} {h h' : H} (k : Keep (id :: ids) h h') (hi : h.length ≤ id) : Keep ids h h' :=
  ⟨k.len, fun j hj hn => k.same j hj (by simp; exact ⟨by omega, hn⟩)⟩
theorem Keep.get {ids : List Nat} {h h' : H} {j : Nat} {x : AObj} (k : Keep ids h h') (hj : h[j]? = some x) (hn : j ∉ ids) : h'[j]? = some x := by
  rw [k.same j (List.getElem?_eq_some_iff.mp hj).1 hn, hj]
theorem get_lt {h : H} {j : Nat} {x : AObj} (hj : h[j]? = some x) : j < h.length := (List.getElem?_eq_some_iff.mp hj).1
theorem get_set {h : H} {j : Nat} {x y : AObj} (hj : h[j]? = some x) : (h.set j y)[j]? = some y := by
  rw [List.getElem?_set_self (get_lt hj)]
theorem get_app {h z : H} {j : Nat} {x : AObj} (hj : h[j]? = some x) : (h ++ z)[j]? = some x := by
  rw [List.getElem?_append_left (get_lt hj), hj]
theorem get_new {h : H} {x : AObj} : (h ++ [x])[h.length]? = some x := by simp

section
variable {h : H} {id off : Nat} {cs : List AV} {k : IntKind} {z : Int}
theorem ld_at {ro : Bool} (hc : h[id]? = some (.arr cs ro)) : ldCell h (.ptr id off) = cs[off]? := by rw [ldCell_ptr, hc, objCell_arr]
theorem ldA_at {ro : Bool} {n : Nat} (hc : h[id]? = some (.arr cs ro)) : ldAgg n h (.ptr id off) = aggAt n cs off := by rw [ldAgg_ptr, hc, objAgg_arr]
theorem st_int (hc : h[id]? = some (.arr cs false)) (ho : off < cs.length) : stN 1 h (.ptr id off) (.int k z) = some (.undef, h.set id (.arr (cs.set off (.int k z)) false)) := by
  rw [stN_ptr, hc, objSet_arr]; simp [splice, ho]
theorem st_str {s : List UInt8} (hc : h[id]? = some (.arr cs false)) (ho : off < cs.length) : stN 1 h (.ptr id off) (.str s) = some (.undef, h.set id (.arr (cs.set off (.str s)) false)) := by
  rw [stN_ptr, hc, objSet_arr]; simp [splice, ho]
theorem st_bool {b : Bool} (hc : h[id]? = some (.arr cs false)) (ho : off < cs.length) : stN 1 h (.ptr id off) (.bool b) = some (.undef, h.set id (.arr (cs.set off (.bool b)) false)) := by
  rw [stN_ptr, hc, objSet_arr]; simp [splice, ho]
theorem st_list {rows : List (List AV)} {o : Own} (hc : h[id]? = some (.arr cs false)) (ho : off < cs.length) : stN 1 h (.ptr id off) (.list rows o) = some (.undef, h.set id (.arr (cs.set off (.list rows o)) false)) := by
  rw [stN_ptr, hc, objSet_arr]; simp [splice, ho]
theorem st_agg {n : Nat} {vs : List AV} (hc : h[id]? = some (.arr cs false)) (ho : off + vs.length ≤ cs.length) (hn : vs.length = n) (h1 : vs.all AV.one = true) : stN n h (.ptr id off) (.agg vs) = some (.undef, h.set id (.arr (cs.take off ++ vs ++ cs.drop (off + vs.length)) false)) := by
  rw [stN_ptr, hc, objSet_arr, cells_agg, if_pos ⟨hn, h1⟩]; simp only [splice, if_pos ho, Option.map_some]
theorem ldTake_list {rows : List (List AV)} {o : Own} (hc : h[id]? = some (.arr cs false)) (ho : cs[off]? = some (.list rows o)) : ldTake h (.ptr id off) = some (.list rows o, h.set id (.arr (cs.set off (AV.copy (.list rows o))) false)) := by
  have hl : off < cs.length := (List.getElem?_eq_some_iff.mp ho).1
  unfold ldTake
  rw [ld_at hc, ho]
  simp only [bind_some']
  cases o with
  | no => rw [copy_no, st_list hc hl]; rfl
  | cap => rw [copy_cap, st_list hc hl]; rfl
  | own s => rw [copy_own, st_list hc hl]; rfl
  | nil => rw [show AV.copy (.list rows .nil) = .list rows .nil from rfl, st_list hc hl]; rfl
  | mem => rw [show AV.copy (.list rows .mem) = .list rows .mem from rfl, st_list hc hl]; rfl
end

/-- A reader of bytes: the bytes, the place, what is wrong. -/
structure Rd where
  b : List UInt8
  p : Nat
  e : Nat
def Rd.ok (r : Rd) : Prop := r.p ≤ r.b.length ∧ r.b.length ≤ 2 ^ 32 ∧ r.e ≤ 100
def Rd.cells (r : Rd) (o : Own) : List AV := [BL r.b o, .int .i64 r.p, .int .i64 r.e]
def RdAt (h : H) (id : Nat) (r : Rd) : Prop := ∃ o, h[id]? = some (.arr (r.cells o) false)
theorem Keep.rd {ids : List Nat} {h h' : H} {id : Nat} {r : Rd} (k : Keep ids h h') (hr : RdAt h id r) (hn : id ∉ ids) : RdAt h' id r := hr.imp fun _ ho => k.get ho hn
theorem RdAt.lt {h : H} {id : Nat} {r : Rd} (hr : RdAt h id r) : id < h.length := get_lt hr.choose_spec

theorem lebGo_facts : ∀ (l : List UInt8) (i n : Nat), i ≤ 9 → n < 128 ^ i → (lebGo i n l).2.1 ≤ i + l.length ∧ (lebGo i n l).2.2 ≤ 11 ∧ (lebGo i n l).1 < 2 ^ 64 ∧ ((lebGo i n l).2.2 = 0 → i < (lebGo i n l).2.1)
  | [], i, n, _, _ => by simp [lebGo]
  | b :: l, i, n, h9, hn => by
    have hb := b.toNat_lt
    rw [lebGo]
    split
    · simp
    · rename_i hx
      split
      · rename_i hs
        refine ⟨by simp, by simp, ?_, by simp⟩
        show n + 128 ^ i * b.toNat < 2 ^ 64
        rcases Nat.lt_or_ge i 9 with h8 | h8
        · have e1 : (128 : Nat) ^ i ≤ 128 ^ 8 := Nat.pow_le_pow_right (by decide) (by omega)
          have e2 : 128 ^ i * b.toNat ≤ 128 ^ 8 * 127 := Nat.mul_le_mul e1 (by omega)
          omega
        · have e : i = 9 := by omega
          subst e
          have e2 : 128 ^ 9 * b.toNat ≤ 128 ^ 9 * 1 := Nat.mul_le_mul_left _ (by omega)
          omega
      · rename_i hs
        have e1 : 128 ^ i * (b.toNat % 128) ≤ 128 ^ i * 127 := Nat.mul_le_mul_left _ (by omega)
        have hn' : n + 128 ^ i * (b.toNat % 128) < 128 ^ (i + 1) := by rw [Nat.pow_succ]; omega
        have ih := lebGo_facts l (i + 1) _ (by omega) hn'
        simp only [List.length_cons]
        refine ⟨by omega, ih.2.1, ih.2.2.1, fun he => ?_⟩
        have := ih.2.2.2 he
        omega
theorem lebG_facts (l : List UInt8) : (lebG l).2.1 ≤ l.length ∧ (lebG l).2.2 ≤ 11 ∧ (lebG l).1 < 2 ^ 64 ∧ ((lebG l).2.2 = 0 → 0 < (lebG l).2.1) := by
  have := lebGo_facts l 0 0 (by omega) (by decide)
  rw [Nat.zero_add] at this
  exact this

/-- A number, one that is not too great, a text, a word; the end. -/
def rdU (r : Rd) : Nat × Rd :=
  if r.e ≠ 0 then (0, r) else
  if (lebG (r.b.drop r.p)).2.2 ≠ 0 then (0, { r with e := (lebG (r.b.drop r.p)).2.2 }) else
  ((lebG (r.b.drop r.p)).1, { r with p := r.p + (lebG (r.b.drop r.p)).2.1 })
def rdN (most : Nat) (r : Rd) : Nat × Rd :=
  if r.e ≠ 0 then (0, r) else
  if (lebG (r.b.drop r.p)).2.2 ≠ 0 then (0, { r with e := (lebG (r.b.drop r.p)).2.2 }) else
  if most < (lebG (r.b.drop r.p)).1 then (0, { r with e := 3 }) else
  ((lebG (r.b.drop r.p)).1, { r with p := r.p + (lebG (r.b.drop r.p)).2.1 })
def rdT (most : Nat) (r : Rd) : List UInt8 × Rd :=
  if r.e ≠ 0 then ([], r) else
  if (lebG (r.b.drop r.p)).2.2 ≠ 0 then ([], { r with e := (lebG (r.b.drop r.p)).2.2 }) else
  if most < (lebG (r.b.drop r.p)).1 then ([], { r with e := 3 }) else
  if r.b.length - (r.p + (lebG (r.b.drop r.p)).2.1) < (lebG (r.b.drop r.p)).1 then ([], { r with e := 10 }) else
  ((r.b.drop (r.p + (lebG (r.b.drop r.p)).2.1)).take (lebG (r.b.drop r.p)).1, { r with p := r.p + (lebG (r.b.drop r.p)).2.1 + (lebG (r.b.drop r.p)).1 })
/-- A word's number, its bytes. -/
def wdN (l : List UInt8) : Nat := (l.getD 0 0).toNat + 256 * (l.getD 1 0).toNat + 65536 * (l.getD 2 0).toNat + 16777216 * (l.getD 3 0).toNat
def wdB (n : Nat) : List UInt8 := [UInt8.ofNat n, UInt8.ofNat (n / 256), UInt8.ofNat (n / 65536), UInt8.ofNat (n / 16777216)]
def rdW (r : Rd) : Nat × Rd :=
  if r.e ≠ 0 then (0, r) else
  if r.b.length - r.p < 4 then (0, { r with e := 10 }) else
  (wdN (r.b.drop r.p), { r with p := r.p + 4 })
def rdE (r : Rd) : Rd := if r.e = 0 ∧ r.p < r.b.length then { r with e := 3 } else r
theorem wdN_lt (l : List UInt8) : wdN l < 2 ^ 32 := by
  have h0 := (l.getD 0 0).toNat_lt
  have h1 := (l.getD 1 0).toNat_lt
  have h2 := (l.getD 2 0).toNat_lt
  have h3 := (l.getD 3 0).toNat_lt
  unfold wdN
  omega
theorem rdU_ok {r : Rd} (h : r.ok) : (rdU r).2.ok ∧ (rdU r).1 < 2 ^ 64 ∧ (rdU r).2.b = r.b := by
  have f := lebG_facts (r.b.drop r.p)
  rw [List.length_drop] at f
  obtain ⟨h1, h2, h3⟩ := h
  unfold rdU
  split
  · exact ⟨⟨h1, h2, h3⟩, Nat.two_pow_pos _, rfl⟩
  · split
    · exact ⟨⟨h1, h2, by show (lebG _).2.2 ≤ 100; omega⟩, Nat.two_pow_pos _, rfl⟩
    · exact ⟨⟨by show r.p + _ ≤ r.b.length; omega, h2, h3⟩, f.2.2.1, rfl⟩
theorem rdN_ok {m : Nat} {r : Rd} (h : r.ok) : (rdN m r).2.ok ∧ (rdN m r).1 ≤ m ∧ (rdN m r).2.b = r.b := by
  have f := lebG_facts (r.b.drop r.p)
  rw [List.length_drop] at f
  obtain ⟨h1, h2, h3⟩ := h
  unfold rdN
  split
  · exact ⟨⟨h1, h2, h3⟩, Nat.zero_le _, rfl⟩
  · split
    · exact ⟨⟨h1, h2, by show (lebG _).2.2 ≤ 100; omega⟩, Nat.zero_le _, rfl⟩
    · split
      · exact ⟨⟨h1, h2, by show 3 ≤ 100; omega⟩, Nat.zero_le _, rfl⟩
      · exact ⟨⟨by show r.p + _ ≤ r.b.length; omega, h2, h3⟩, by show (lebG _).1 ≤ m; omega, rfl⟩
theorem rdT_ok {m : Nat} {r : Rd} (h : r.ok) : (rdT m r).2.ok ∧ (rdT m r).1.length ≤ m ∧ (rdT m r).2.b = r.b := by
  have f := lebG_facts (r.b.drop r.p)
  rw [List.length_drop] at f
  obtain ⟨h1, h2, h3⟩ := h
  unfold rdT
  split
  · exact ⟨⟨h1, h2, h3⟩, Nat.zero_le _, rfl⟩
  · split
    · exact ⟨⟨h1, h2, by show (lebG _).2.2 ≤ 100; omega⟩, Nat.zero_le _, rfl⟩
    · split
      · exact ⟨⟨h1, h2, by show 3 ≤ 100; omega⟩, Nat.zero_le _, rfl⟩
      · split
        · exact ⟨⟨h1, h2, by show 10 ≤ 100; omega⟩, Nat.zero_le _, rfl⟩
        · exact ⟨⟨by show r.p + _ + _ ≤ r.b.length; omega, h2, h3⟩, by simp only [List.length_take]; omega, rfl⟩
theorem rdW_ok {r : Rd} (h : r.ok) : (rdW r).2.ok ∧ (rdW r).1 < 2 ^ 32 ∧ (rdW r).2.b = r.b := by
  obtain ⟨h1, h2, h3⟩ := h
  unfold rdW
  split
  · exact ⟨⟨h1, h2, h3⟩, Nat.two_pow_pos _, rfl⟩
  · split
    · exact ⟨⟨h1, h2, by show 10 ≤ 100; omega⟩, Nat.two_pow_pos _, rfl⟩
    · exact ⟨⟨by show r.p + 4 ≤ r.b.length; omega, h2, h3⟩, wdN_lt _, rfl⟩
theorem rdE_ok {r : Rd} (h : r.ok) : (rdE r).ok ∧ (rdE r).b = r.b := by
  unfold rdE
  split
  · exact ⟨⟨h.1, h.2.1, by show 3 ≤ 100; omega⟩, rfl⟩
  · exact ⟨h, rfl⟩
theorem shl_u32 {a k : Nat} {kk : IntKind} (hk : k ≤ 32) (h : a * 2 ^ k < 2 ^ 32) : bin .shl (.int .u32 (a : Int)) (.int kk (k : Int)) = some (.int .u32 ((a * 2 ^ k : Nat) : Int)) := by
  rw [bin_shl]
  unfold shiftBin
  rw [if_neg (by omega)]
  simp only [IntKind.bits, Int.toNat_natCast, show min k 32 = k by omega]
  rw [show ((a : Int) * 2 ^ k) = ((a * 2 ^ k : Nat) : Int) by simp]
  have : IntKind.wrap .u32 ((a * 2 ^ k : Nat) : Int) = ((a * 2 ^ k : Nat) : Int) := by
    have e := wrap_32 (BitVec.ofNat 32 (a * 2 ^ k))
    rw [BitVec.toNat_ofNat, Nat.mod_eq_of_lt h] at e
    exact e
  rw [this]
theorem or_add32 {n a k : Nat} (hn : n < 2 ^ k) (h : a * 2 ^ k + n < 2 ^ 32) : bin .or (.int .u32 (n : Int)) (.int .u32 ((a * 2 ^ k : Nat) : Int)) = some (.int .u32 ((n + 2 ^ k * a : Nat) : Int)) := by
  rw [w32_of (by omega), w32_of (by omega), or_32]
  congr 1
  show AV.int .u32 _ = AV.int .u32 _
  congr 2
  rw [BitVec.toNat_or, BitVec.toNat_ofNat, BitVec.toNat_ofNat, Nat.mod_eq_of_lt (show n < 2 ^ 32 by omega), Nat.mod_eq_of_lt (show a * 2 ^ k < 2 ^ 32 by omega)]
  rw [Nat.or_comm, Nat.mul_comm a, ← Nat.two_pow_add_eq_or_of_lt hn, Nat.add_comm]
end Go.Ve

/- VE: bytes that are read are those that were written. -/
namespace Go.Ve
open Go

theorem ofNat_small {b : UInt8} {n : Nat} (h : b.toNat = n) : UInt8.ofNat n = b := by rw [← h]; exact UInt8.ofNat_toNat
theorem toNat_lt {n : Nat} (h : n < 256) : (UInt8.ofNat n).toNat = n := by rw [UInt8.toNat_ofNat']; omega
theorem pow10 {i n : Nat} (hi : 10 ≤ i) (hn : 0 < n) : 2 ^ 64 ≤ n * 128 ^ i := by
  have e : (128 : Nat) ^ 10 ≤ 128 ^ i := Nat.pow_le_pow_right (by decide) hi
  have e2 : 1 * 128 ^ 10 ≤ n * 128 ^ i := Nat.mul_le_mul hn e
  omega
theorem lebGo_put : ∀ (n : Nat) (i m : Nat) (t : List UInt8), n * 128 ^ i < 2 ^ 64 → (0 < i → 0 < n) → lebGo i m (lebB n ++ t) = (m + 128 ^ i * n, i + (lebB n).length, 0) := by
  intro n
  induction n using Nat.strongRecOn with
  | _ n ih =>
    intro i m t h h0
    by_cases hn : n < 128
    · rw [lebB_small hn]
      simp only [List.cons_append, List.nil_append, lebGo, toNat_lt (show n < 256 by omega), List.length_cons, List.length_nil]
      rw [if_neg, if_pos hn]
      rintro (⟨hi, h1⟩ | ⟨hz, hi⟩)
      · subst hi
        have : 2 * 128 ^ 9 ≤ n * 128 ^ 9 := Nat.mul_le_mul_right _ h1
        omega
      · have := h0 hi
        omega
    · rw [lebB_big hn]
      have hb : n % 128 + 128 < 256 := by omega
      simp only [List.cons_append, lebGo, toNat_lt hb, List.length_cons]
      have hi9 : i < 9 := by
        rcases Nat.lt_or_ge i 9 with h8 | h8
        · exact h8
        · exfalso
          have e : (128 : Nat) ^ 9 ≤ 128 ^ i := Nat.pow_le_pow_right (by decide) h8
          have e2 : 128 * 128 ^ 9 ≤ n * 128 ^ i := Nat.mul_le_mul (by omega) e
          omega
      rw [if_neg (by omega), if_neg (by omega)]
      have h2 : n / 128 * 128 ^ (i + 1) ≤ n * 128 ^ i := by
        have e : n / 128 * 128 ≤ n := Nat.div_mul_le_self n 128
        calc n / 128 * 128 ^ (i + 1) = n / 128 * 128 * 128 ^ i := by rw [Nat.pow_succ, Nat.mul_comm (128 ^ i), Nat.mul_assoc]
          _ ≤ n * 128 ^ i := Nat.mul_le_mul_right _ e
      rw [ih (n / 128) (by omega) (i + 1) _ t (by omega) (by omega)]
      have e : (n % 128 + 128) % 128 = n % 128 := by omega
      have e3 : m + 128 ^ i * ((n % 128 + 128) % 128) + 128 ^ (i + 1) * (n / 128) = m + 128 ^ i * n := by
        rw [e, Nat.pow_succ, Nat.mul_assoc, Nat.add_assoc, ← Nat.mul_add]
        congr 2
        omega
      rw [e3]
      congr 2
      omega
theorem lebG_put {n : Nat} (t : List UInt8) (h : n < 2 ^ 64) : lebG (lebB n ++ t) = (n, (lebB n).length, 0) := by
  unfold lebG
  rw [lebGo_put n 0 0 t (by simpa using h) (by omega)]
  simp
theorem lebGo_inv : ∀ (l : List UInt8) (i m N k : Nat), lebGo i m l = (N, k, 0) → ∃ n, N = m + 128 ^ i * n ∧ l.take (k - i) = lebB n ∧ i < k ∧ (0 < i → 0 < n)
  | [], i, m, N, k, h => by simp [lebGo] at h
  | b :: l, i, m, N, k, h => by
    have hb := b.toNat_lt
    rw [lebGo] at h
    split at h
    · simp at h
    · rename_i hx
      split at h
      · rename_i hs
        simp only [Prod.mk.injEq] at h
        obtain ⟨h1, h2, _⟩ := h
        refine ⟨b.toNat, h1.symm, ?_, by omega, by omega⟩
        rw [show k - i = 1 by omega, lebB_small hs, ofNat_small rfl]
        rfl
      · rename_i hs
        obtain ⟨n, h1, h2, h3, h4⟩ := lebGo_inv l (i + 1) _ N k h
        have h5 := h4 (by omega)
        refine ⟨b.toNat % 128 + 128 * n, ?_, ?_, by omega, by omega⟩
        · rw [h1, Nat.pow_succ, Nat.mul_assoc, Nat.add_assoc, ← Nat.mul_add]
        · rw [lebB_big (by omega), show (b.toNat % 128 + 128 * n) / 128 = n by omega, show (b.toNat % 128 + 128 * n) % 128 + 128 = b.toNat by omega, ofNat_small rfl, ← h2, show k - i = k - (i + 1) + 1 by omega, List.take_succ_cons]
theorem lebG_inv {l : List UInt8} (h : (lebG l).2.2 = 0) : l.take (lebG l).2.1 = lebB (lebG l).1 := by
  obtain ⟨n, h1, h2, h3, h4⟩ := lebGo_inv l 0 0 (lebG l).1 (lebG l).2.1 (by show lebG l = _; rw [← h])
  rw [Nat.zero_add, Nat.pow_zero, Nat.one_mul] at h1
  rw [h1, ← h2, Nat.sub_zero]
theorem wdN_put {n : Nat} (t : List UInt8) (h : n < 2 ^ 32) : wdN (wdB n ++ t) = n := by
  unfold wdN wdB
  simp only [List.cons_append, List.nil_append, List.getD_cons_zero, List.getD_cons_succ, UInt8.toNat_ofNat']
  omega
theorem wdB_inv {l : List UInt8} (h : 4 ≤ l.length) : wdB (wdN l) = l.take 4 := by
  match l, h with
  | a :: b :: c :: d :: t, _ =>
    have ha := a.toNat_lt
    have hb := b.toNat_lt
    have hc := c.toNat_lt
    have hd := d.toNat_lt
    unfold wdN wdB
    simp only [List.getD_cons_zero, List.getD_cons_succ, List.take_succ_cons, List.take_zero]
    refine List.cons_eq_cons.mpr ⟨?_, List.cons_eq_cons.mpr ⟨?_, List.cons_eq_cons.mpr ⟨?_, List.cons_eq_cons.mpr ⟨?_, rfl⟩⟩⟩⟩ <;> apply UInt8.toNat_inj.mp <;> rw [UInt8.toNat_ofNat'] <;> omega

/-- A reader has not failed, and stands ahead of some bytes. -/
structure Rd.At (r : Rd) (t : List UInt8) : Prop where
  e : r.e = 0
  d : r.b.drop r.p = t
  l : r.p ≤ r.b.length
def Rd.go (r : Rd) (n : Nat) : Rd := ⟨r.b, r.p + n, r.e⟩
theorem Rd.go_go (r : Rd) (n m : Nat) : (r.go n).go m = r.go (n + m) := by simp [Rd.go, Nat.add_assoc]
theorem Rd.go_zero (r : Rd) : r.go 0 = r := rfl
theorem Rd.At.next {r : Rd} {x t : List UInt8} (h : r.At (x ++ t)) : (r.go x.length).At t := by
  refine ⟨h.e, ?_, ?_⟩
  · show r.b.drop (r.p + x.length) = t
    rw [← List.drop_drop, h.d, List.drop_append_of_le_length (Nat.le_refl _), List.drop_length, List.nil_append]
  · have := congrArg List.length h.d
    rw [List.length_drop, List.length_append] at this
    show r.p + x.length ≤ r.b.length
    have := h.l
    omega
theorem rdN_put {m n : Nat} {r : Rd} {t : List UInt8} (h : r.At (lebB n ++ t)) (hm : n ≤ m) (hn : n < 2 ^ 64) : rdN m r = (n, r.go (lebB n).length) := by
  unfold rdN
  rw [h.d, lebG_put t hn]
  simp only [h.e, ne_eq, not_true_eq_false, if_false, if_neg (show ¬ m < n by omega)]
  rw [Rd.go, h.e]
theorem rdW_put {n : Nat} {r : Rd} {t : List UInt8} (h : r.At (wdB n ++ t)) (hn : n < 2 ^ 32) : rdW r = (n, r.go (wdB n).length) := by
  have hl := congrArg List.length h.d
  rw [List.length_drop, List.length_append, show (wdB n).length = 4 from rfl] at hl
  unfold rdW
  rw [h.d, wdN_put t hn]
  simp only [h.e, ne_eq, not_true_eq_false, if_false, if_neg (show ¬ r.b.length - r.p < 4 by omega)]
  rw [Rd.go, h.e]
  rfl
theorem rdT_put {m : Nat} {s : List UInt8} {r : Rd} {t : List UInt8} (h : r.At ((lebB s.length ++ s) ++ t)) (hm : s.length ≤ m) (hn : s.length < 2 ^ 64) : rdT m r = (s, r.go (lebB s.length ++ s).length) := by
  have hl := congrArg List.length h.d
  rw [List.length_drop, List.length_append, List.length_append] at hl
  have hd : r.b.drop (r.p + (lebB s.length).length) = s ++ t := by
    have := h
    rw [List.append_assoc] at this
    exact this.next.d
  have h2 := h.d
  rw [List.append_assoc] at h2
  have := h.l
  unfold rdT
  rw [h2, lebG_put _ hn]
  simp only [h.e, ne_eq, not_true_eq_false, if_false, if_neg (show ¬ m < s.length by omega), hd, if_neg (show ¬ r.b.length - (r.p + (lebB s.length).length) < s.length by omega), List.take_left]
  rw [Rd.go, h.e, List.length_append, Nat.add_assoc]
theorem rdE_put {r : Rd} (h : r.At []) : rdE r = r := by
  have := congrArg List.length h.d
  rw [List.length_drop, List.length_nil] at this
  unfold rdE
  rw [if_neg (by omega)]
theorem rdW_inv {r : Rd} (h : (rdW r).2.e = 0) : r.e = 0 ∧ (rdW r).2.p = r.p + 4 ∧ (rdW r).2.b = r.b ∧ r.p + 4 ≤ r.b.length ∧ r.b.drop r.p = wdB (rdW r).1 ++ r.b.drop (r.p + 4) := by
  unfold rdW at h ⊢
  by_cases he : r.e = 0
  · rw [if_neg (by omega)] at h ⊢
    by_cases hl : r.b.length - r.p < 4
    · rw [if_pos hl] at h
      exact absurd h (by simp)
    · rw [if_neg hl]
      refine ⟨he, rfl, rfl, by omega, ?_⟩
      rw [wdB_inv (by rw [List.length_drop]; omega), ← List.drop_drop, List.take_append_drop]
  · rw [if_pos he] at h
    exact absurd h he
theorem rdT_inv {m : Nat} {r : Rd} (h : (rdT m r).2.e = 0) (hp : r.p ≤ r.b.length) : r.e = 0 ∧ (rdT m r).1.length ≤ m ∧ (rdT m r).2.b = r.b ∧ (rdT m r).2.p = r.p + (lebB (rdT m r).1.length ++ (rdT m r).1).length ∧ r.b.drop r.p = (lebB (rdT m r).1.length ++ (rdT m r).1) ++ r.b.drop (rdT m r).2.p := by
  have f := lebG_facts (r.b.drop r.p)
  have v := lebG_inv (l := r.b.drop r.p)
  rw [List.length_drop] at f
  unfold rdT at h ⊢
  generalize lebG (r.b.drop r.p) = g at *
  by_cases he : r.e = 0
  · rw [if_neg (by omega)] at h ⊢
    by_cases h1 : g.2.2 = 0
    · rw [if_neg (by omega)] at h ⊢
      by_cases h2 : m < g.1
      · rw [if_pos h2] at h
        exact absurd h (by simp)
      · rw [if_neg h2] at h ⊢
        by_cases h3 : r.b.length - (r.p + g.2.1) < g.1
        · rw [if_pos h3] at h
          exact absurd h (by simp)
        · rw [if_neg h3]
          have hv := v h1
          have hl : ((r.b.drop (r.p + g.2.1)).take g.1).length = g.1 := by
            rw [List.length_take, List.length_drop]; omega
          have hk : (lebB g.1).length = g.2.1 := by
            rw [← hv, List.length_take, List.length_drop]; omega
          refine ⟨he, by rw [hl]; omega, rfl, ?_, ?_⟩
          · show r.p + g.2.1 + g.1 = _
            rw [List.length_append, hl, hk, Nat.add_assoc]
          · show _ = _ ++ r.b.drop (r.p + g.2.1 + g.1)
            rw [hl, ← hv, List.append_assoc, ← List.drop_drop (i := g.1), List.take_append_drop, ← List.drop_drop, List.take_append_drop]
    · rw [if_pos h1] at h
      exact absurd h h1
  · rw [if_pos he] at h
    exact absurd h he
theorem rdN_inv {m : Nat} {r : Rd} (h : (rdN m r).2.e = 0) : r.e = 0 ∧ (rdN m r).1 ≤ m ∧ (rdN m r).2.b = r.b ∧ (rdN m r).2.p = r.p + (lebB (rdN m r).1).length ∧ r.b.drop r.p = lebB (rdN m r).1 ++ r.b.drop (rdN m r).2.p := by
  have f := lebG_facts (r.b.drop r.p)
  have v := lebG_inv (l := r.b.drop r.p)
  rw [List.length_drop] at f
  unfold rdN at h ⊢
  generalize lebG (r.b.drop r.p) = g at *
  by_cases he : r.e = 0
  · rw [if_neg (by omega)] at h ⊢
    by_cases h1 : g.2.2 = 0
    · rw [if_neg (by omega)] at h ⊢
      by_cases h2 : m < g.1
      · rw [if_pos h2] at h
        exact absurd h (by simp)
      · rw [if_neg h2]
        have hv := v h1
        have hk : (lebB g.1).length = g.2.1 := by
          rw [← hv, List.length_take, List.length_drop]; omega
        refine ⟨he, by show g.1 ≤ m; omega, rfl, ?_, ?_⟩
        · show r.p + g.2.1 = _
          rw [hk]
        · show _ = lebB g.1 ++ r.b.drop (r.p + g.2.1)
          rw [← hv, ← List.drop_drop, List.take_append_drop]
    · rw [if_pos h1] at h
      exact absurd h h1
  · rw [if_pos he] at h
    exact absurd h he
end Go.Ve
