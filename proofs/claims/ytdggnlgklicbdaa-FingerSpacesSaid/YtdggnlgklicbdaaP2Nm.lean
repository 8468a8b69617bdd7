import Derived.Test.YtdggnlgklicbdaaProg
import Derived.WalkKit
import Derived.BigCall
import Derived.WalkMore
import Derived.Laws.Strings2
import Derived.Laws.Strings3
import Derived.Maps.AppendAt
import Derived.Deep.LoopGhost
import Derived.Test.YtdggnlgklicbdaaVa5
set_option linter.all false
set_option linter.all false
set_option maxRecDepth 100000
namespace Go.Proofs.Ytdggnlgklicbdaa
open Go.RowKit Go.Ve
def wordB (c : UInt8) : Bool := decide (97 ≤ c.toNat ∧ c.toNat ≤ 122) || decide (65 ≤ c.toNat ∧ c.toNat ≤ 90) || decide (48 ≤ c.toNat ∧ c.toNat ≤ 57) || decide (c.toNat = 95) || decide (c.toNat = 46)
theorem word_calls (c : UInt8) (w : World) : Calls Try.prog 99 #[.int .u8 (c.toNat : Int)] w fun e w' => e = .returned (.bool (wordB c)) ∧ w' = w := by
  obtain ⟨z, hz⟩ : ∃ z : Int, z = (c.toNat : Int) := ⟨_, rfl⟩
  have e : wordB c = (decide (97 ≤ z ∧ z ≤ 122) || decide (65 ≤ z ∧ z ≤ 90) || decide (48 ≤ z ∧ z ≤ 57) || decide (z = 95) || decide (z = 46)) := by
    unfold wordB
    rw [Bool.eq_iff_iff]
    simp
    omega
  rw [e, ← hz]
  clear e hz
  go_enter Try.func99, Try.ntmps99
  go_wp2
  all_goals go_ret
  all_goals (refine ⟨?_, rfl⟩; simp; try omega)
  all_goals (rw [Bool.eq_iff_iff]; simp; omega)
def prtF : Nat → Tx → List Tx
  | 0, _ => []
  | _ + 1, [] => []
  | f + 1, c :: l => if wordB c then (c :: l.takeWhile wordB) :: prtF f (l.dropWhile wordB) else if c = 32 then prtF f l else [c] :: prtF f l
def prts (s : Tx) : List Tx := prtF s.length s
theorem Try.info9 : (Try.prog.info? 9).map (fun i => (i.zero, i.size, i.bytes)) = some (some (.string ⟨#[]⟩), 1, 16) := by kernel_rfl
abbrev strV (p : Tx) : Value := .string ⟨p.toArray⟩
theorem prtF_word {f : Nat} {c : UInt8} {l : Tx} (h : wordB c = true) : prtF (f + 1) (c :: l) = (c :: l).takeWhile wordB :: prtF f ((c :: l).dropWhile wordB) := by
  simp [prtF, h]
theorem take_all {p : UInt8 → Bool} : ∀ {m r : Tx}, (∀ x ∈ m, p x = true) → (∀ d r', r = d :: r' → p d = false) → (m ++ r).takeWhile p = m ∧ (m ++ r).dropWhile p = r
  | [], [], _, _ => by simp
  | [], d :: r, _, h => by simp [h d r rfl]
  | x :: m, r, hm, h => by
    obtain ⟨h1, h2⟩ := take_all (m := m) (r := r) (fun y hy => hm y (List.mem_cons_of_mem _ hy)) h
    simp [hm x (by simp), h1, h2]
theorem ext_str {B : ByteArray} {pre m post : Tx} (h : B.data.toList = pre ++ (m ++ post)) {a b : Nat} (ha : a = pre.length) (hb : b = pre.length + m.length) : B.extract a b = ⟨m.toArray⟩ := by
  apply ByteArray.ext
  subst ha hb
  rw [ByteArray.data_extract]
  apply Array.toList_inj.mp
  rw [Array.toList_extract, h]
  simp
theorem sl_str {B : ByteArray} {pre m post : Tx} (h : B.data.toList = pre ++ (m ++ post)) (a b : Nat) (ha : a = pre.length) (hb : b = pre.length + m.length) (i j : Int) (hi : i = a) (hj : j = b) (w : World) : (Instr.slice 9 (.string B) (some (.int .i64 i)) (some (.int .i64 j)) none).run Try.prog w = .ok (.string ⟨m.toArray⟩) w := by
  have hl := congrArg List.length h
  simp at hl
  have hsz : B.data.size = B.size := rfl
  have e := run_slice_string (P := Try.prog) w 9 B .i64 .i64 a b Try.underlying9 (by omega) (by omega) (by show (b : Int) ≤ (B.data.size : Int); omega)
  subst hi hj
  rw [e]
  simp only [Int.toNat_natCast]
  rw [ext_str h ha hb]
theorem sl_str_from {B : ByteArray} {pre m : Tx} (h : B.data.toList = pre ++ m) (a : Nat) (ha : a = pre.length) (w : World) : (Instr.slice 9 (.string B) (some (.int .i64 (a : Int))) none none).run Try.prog w = .ok (.string ⟨m.toArray⟩) w := by
  have hl := congrArg List.length h
  simp at hl
  have hsz : B.size = pre.length + m.length := hl
  rw [run_slice_string_from_if w 9 B .i64 a Try.underlying9, if_pos ⟨by omega, by omega⟩]
  simp only [Int.toNat_natCast]
  rw [ext_str (post := []) (by rw [List.append_nil]; exact h) ha hsz]
set_option maxHeartbeats 1600000 in
theorem parts_calls (B : ByteArray) (w : World) (hs : B.size ≤ 4398046511104) :
    Calls Try.prog 98 #[.string B] w fun e w' => ∃ v, e = .returned v ∧ w'.ownsRow w.heap.size 9 1 v (prts B.data.toList).length ((prts B.data.toList).map strV) ∧ Below w.heap.size w w' := by
  obtain ⟨i0, hi, hz0, hz1, hz2⟩ := info_parts Try.info9
  go_enter Try.func98, Try.ntmps98
  go_wp2
  go_step3
  go_wp2
  go_step3
  go_wp2
  go_loopg [3, 4] (B.size) (fun g v i wr => ∃ (pre rest : Tx) (out : List Tx) (n f : Nat), Aside (B.data.toList = pre ++ rest) ∧ n + g = B.size ∧ pre.length = n ∧ i = .int .i64 (n : Int) ∧ wr.ownsRow w.heap.size 9 1 v out.length (out.map strV) ∧ Aside (out ++ prtF f rest = prts B.data.toList) ∧ rest.length ≤ f ∧ out.length ≤ n ∧ Below w.heap.size w wr)
  case atStart => exact ⟨[], B.data.toList, [], 0, B.data.toList.length, rfl, by omega, rfl, rfl, World.ownsRow_nil _ _ _ _, rfl, Nat.le_refl _, Nat.le_refl _, Below.refl _ _⟩
  case round =>
    obtain ⟨pre, rest, out, n, f, hB, hng, hpl, rfl, hown, hall, hf, hout, hnx⟩ := hrel
    have hBl : B.size = pre.length + rest.length := by
      have := congrArg List.length hB.out
      simpa using this
    cases gk with
    | zero =>
      have hge : ¬ ((n : Int) < (B.size : Int)) := by omega
      have hr : rest = [] := List.eq_nil_of_length_eq_zero (by omega)
      have hall2 : out = prts B.data.toList := by rw [← hall.out, hr]; cases f <;> simp [prtF]
      clear hng hBl hpl hall hB hf hr
      go_wp2
      go_ret
      exact ⟨_, rfl, hall2 ▸ hown, hnx⟩
    | succ g =>
      have hlt : (n : Int) < (B.size : Int) := by omega
      have hltN : n < B.size := by omega
      obtain ⟨c, rest, rfl⟩ : ∃ c r, rest = c :: r := by
        cases rest with
        | nil => simp at hBl; omega
        | cons c r => exact ⟨c, r, rfl⟩
      have hget : B[n] = c := by
        have : B.data.toList[n]? = some c := by rw [hB.out, ← hpl]; simp
        rw [Array.getElem?_toList, Array.getElem?_eq_getElem hltN] at this
        exact Option.some.inj this
      simp only [List.length_cons] at hBl hf
      obtain ⟨f, rfl⟩ : ∃ f', f = f' + 1 := ⟨f - 1, by omega⟩
      have cW := word_calls (B[n]) wr
      rw [hget] at cW
      have hng2 : n + 1 + g = B.size := by omega
      have HX : Aside (n + 1 + g = B.size ∧ pre.length = n ∧ rest.length ≤ f ∧ B.size = pre.length + (rest.length + 1) ∧ B[n] = c) := ⟨hng2, hpl, by omega, hBl, hget⟩
      clear hng hng2 hBl hpl hf hget
      cases hw : wordB c with
      | false =>
        rw [hw] at cW
        have hsl := sl_str (pre := pre) (m := [c]) (post := rest) hB.out n (n + 1) HX.out.2.1.symm (by rw [HX.out.2.1]; rfl) n (n + 1) rfl (by omega)
        go_wp2_with (first
          | (go_at_call 99; rw [HX.out.2.2.2.2]; refine cW.mono ?_; rintro e w' ⟨rfl, rfl⟩)
          | (at_builtin; refine wpList_append_own _ rfl _ _ 69 rfl w.heap.size 9 i0 (.string ⟨#[]⟩) 1 16 Try.underlying69 hi hz0 hz1 hz2 rfl (by decide) _ _ _ rfl (hown.alloc _) ⟨_, 0, none⟩ 1 1 [strV [c]] rfl rfl (cell_one_new _ _ _) (fun x hx => by simp at hx; subst hx; rfl) (by unfold maxLen; omega) (by omega) (by have := hnx.size; simp; omega) ?_; intro v' w3 hown' hgrow3 hnil3))
        · have hne : (c.toNat != 32) = true := by
            have h : ((B[n].toNat : Int) != 32) = true := by assumption
            rw [HX.out.2.2.2.2] at h
            have h2 : ¬ (c.toNat : Int) = 32 := by simpa using h
            simp; omega
          have hc : c ≠ 32 := fun e => by subst e; cases hne
          go_roundg g
          case measure => omega
          case rel =>
            refine ⟨pre ++ [c], rest, out ++ [[c]], n + 1, f, ?_, HX.out.1, by rw [List.length_append, HX.out.2.1]; rfl, by first | rfl | simp, ?_, ?_, HX.out.2.2.1, by simp; omega, (hnx.alloc hnx.size _).grown hgrow3 (by have := hnx.size; simp; omega) (fun q hq => (hown.lt q hq).1)⟩
            · show _ = _; rw [hB.out]; simp
            · rw [List.map_append, List.length_append]; exact hown'
            · show _ = _; rw [← hall.out]; simp [prtF, hw, hc]
        · have hc : c = 32 := by
            have h : ((B[n].toNat : Int) != 32) = false := by assumption
            rw [HX.out.2.2.2.2] at h
            have h3 : (c.toNat : Int) = 32 := by simpa using h
            have h2 : c.toNat = 32 := by omega
            exact UInt8.toNat_inj.mp h2
          go_roundg g
          case measure => omega
          case rel =>
            refine ⟨pre ++ [c], rest, out, n + 1, f, ?_, HX.out.1, by rw [List.length_append, HX.out.2.1]; rfl, by first | rfl | simp, hown, ?_, HX.out.2.2.1, by omega, hnx⟩
            · show _ = _; rw [hB.out]; simp
            · show _ = _; rw [← hall.out]; simp only [prtF, hw, hc, if_true, if_false, Bool.false_eq_true]; subst hc; simp [prtF, hw]
      | true =>
        rw [hw] at cW
        go_wp2_with (first
          | (go_at_call 99; rw [HX.out.2.2.2.2]; refine cW.mono ?_; rintro e w' ⟨rfl, rfl⟩))
        have hwr : w'.ownsRow w.heap.size 9 1 u3 out.length (out.map strV) ∧ Below w.heap.size w w' := ⟨hown, hnx⟩
        clear cW
        go_loopg [3, 4] (g + 1) (fun g2 v i wr => ∃ (m rest2 : Tx) (n2 : Nat), Aside (c :: rest = m ++ rest2 ∧ n2 = n + m.length ∧ rest2.length = g2 ∧ (∀ x ∈ m, wordB x = true)) ∧ n2 + g2 = B.size ∧ i = .int .i64 (n2 : Int) ∧ v = u3 ∧ w' = wr)
        case atStart => exact ⟨[], c :: rest, n, ⟨rfl, rfl, by have := HX.out; simp; omega, fun x hx => by cases hx⟩, by have := HX.out.1; omega, rfl, rfl, rfl⟩
        case round =>
          obtain ⟨m, rest2, n2, HI, hng2, rfl, rfl, rfl⟩ := hrel
          have HX2 : Aside (n2 + gk = B.size) := hng2
          cases gk with
          | zero =>
            have hge : ¬ ((n2 : Int) < (B.size : Int)) := by omega
            clear hng2
            have hr2 : rest2 = [] := List.eq_nil_of_length_eq_zero HI.out.2.2.1
            have HM : Aside (c :: rest = m) := by show _ = _; rw [HI.out.1, hr2, List.append_nil]
            clear hr2
            have hsl := sl_str_from (pre := pre) (m := c :: rest) hB.out n HX.out.2.1.symm
            go_wp2_with (at_builtin; refine wpList_append_own _ rfl _ _ 69 rfl w.heap.size 9 i0 (.string ⟨#[]⟩) 1 16 Try.underlying69 hi hz0 hz1 hz2 rfl (by decide) _ _ _ rfl (hwr.1.alloc _) ⟨_, 0, none⟩ 1 1 [strV (c :: rest)] rfl rfl (cell_one_new _ _ _) (fun x hx => by simp at hx; subst hx; rfl) (by unfold maxLen; omega) (by omega) (by have := hwr.2.size; simp; omega) ?_; intro v' w3 hown' hgrow3 hnil3)
            go_roundg 0
            case measure => omega
            case rel =>
              have hta := take_all (m := c :: rest) (r := []) (p := wordB) (by rw [HM.out]; exact HI.out.2.2.2) (fun d r' h => nomatch h)
              rw [List.append_nil] at hta
              refine ⟨pre ++ (c :: rest), [], out ++ [c :: rest], n2, f, ?_, HX2.out, ?_, by first | rfl | simp, ?_, ?_, by simp, by have := HX.out; have := HX2.out; simp; omega, (hwr.2.alloc hwr.2.size _).grown hgrow3 (by have := hwr.2.size; simp; omega) (fun q hq => (hwr.1.lt q hq).1)⟩
              · show _ = _; rw [hB.out]; simp
              · rw [List.length_append, HX.out.2.1, HI.out.2.1, HM.out]
              · rw [List.map_append, List.length_append]; exact hown'
              · show _ = _; rw [← hall.out, prtF_word hw, hta.1, hta.2]; simp
          | succ g2 =>
            have hlt2 : (n2 : Int) < (B.size : Int) := by omega
            have hlt2N : n2 < B.size := by omega
            clear hng2
            obtain ⟨d, r2, hr2⟩ : ∃ d r, rest2 = d :: r := by
              cases rest2 with
              | nil => have := HI.out.2.2.1; simp at this
              | cons d r => exact ⟨d, r, rfl⟩
            have HG2 : Aside (B[n2] = d) := by
              have : B.data.toList[n2]? = some d := by
                rw [hB.out, HI.out.1, hr2, HI.out.2.1, ← HX.out.2.1, ← List.append_assoc, ← List.length_append, List.getElem?_append_right (Nat.le_refl _), Nat.sub_self]; rfl
              rw [Array.getElem?_toList, Array.getElem?_eq_getElem hlt2N] at this
              exact Option.some.inj this
            have cW := word_calls d w'
            cases hwd : wordB d with
            | true =>
              rw [hwd] at cW
              go_wp2_with (go_at_call 99; rw [HG2.out]; refine cW.mono ?_; rintro e w4 ⟨rfl, hw4⟩; rw [hw4])
              go_roundg g2
              case measure => omega
              case rel =>
                refine ⟨m ++ [d], r2, n2 + 1, ⟨?_, ?_, ?_, ?_⟩, by have := HX2.out; omega, by first | rfl | simp, rfl, rfl⟩
                · rw [HI.out.1, hr2]; simp
                · have := HI.out.2.1; simp; omega
                · have := HI.out.2.2.1; rw [hr2] at this; simpa using this
                · intro x hx
                  rcases List.mem_append.mp hx with hx | hx
                  · exact HI.out.2.2.2 x hx
                  · rw [List.mem_singleton.mp hx]; exact hwd
            | false =>
              rw [hwd] at cW
              have hsl := sl_str (pre := pre) (m := m) (post := rest2) (by rw [hB.out, HI.out.1]) n n2 HX.out.2.1.symm (by rw [HX.out.2.1]; exact HI.out.2.1) n n2 rfl rfl
              go_wp2_with (first
                | (go_at_call 99; rw [HG2.out]; refine cW.mono ?_; rintro e w4 ⟨rfl, hw4⟩; rw [hw4])
                | (at_builtin; refine wpList_append_own _ rfl _ _ 69 rfl w.heap.size 9 i0 (.string ⟨#[]⟩) 1 16 Try.underlying69 hi hz0 hz1 hz2 rfl (by decide) _ _ _ rfl (hwr.1.alloc _) ⟨_, 0, none⟩ 1 1 [strV m] rfl rfl (cell_one_new _ _ _) (fun x hx => by simp at hx; subst hx; rfl) (by unfold maxLen; omega) (by omega) (by have := hwr.2.size; simp; omega) ?_; intro v' w3 hown' hgrow3 hnil3))
              have hta := take_all (m := m) (r := rest2) (p := wordB) HI.out.2.2.2 (fun d' r' h => by rw [hr2] at h; cases h; exact hwd)
              have hm1 : 0 < m.length := by
                cases m with
                | nil => have h := HI.out.1; rw [hr2] at h; simp at h; rw [← h.1, hw] at hwd; cases hwd
                | cons => simp
              go_roundg (g2 + 1)
              case measure => have := HX.out.1; have := HX2.out; have := HI.out.2.1; omega
              case rel =>
                refine ⟨pre ++ m, rest2, out ++ [m], n2, f, ?_, HX2.out, ?_, by first | rfl | simp, ?_, ?_, by have h := HX.out; have h2 := HI.out; have h3 := congrArg List.length h2.1; simp at h3; omega, by have := HI.out.2.1; simp; omega, (hwr.2.alloc hwr.2.size _).grown hgrow3 (by have := hwr.2.size; simp; omega) (fun q hq => (hwr.1.lt q hq).1)⟩
                · show _ = _; rw [hB.out, HI.out.1]; simp
                · rw [List.length_append, HX.out.2.1, HI.out.2.1]
                · rw [List.map_append, List.length_append]; exact hown'
                · show _ = _; rw [← hall.out, prtF_word hw, HI.out.1, hta.1, hta.2]; simp
end Go.Proofs.Ytdggnlgklicbdaa
