import Derived.Test.YtdggnlgklicbdaaVa1
import Derived.Deep.Upon
import Derived.Room.Entries
set_option linter.all false
namespace Go.Ve
open Go
section
variable {P : Program} {w : World} {g : Gh} {h : H} {fr : List (Nat × AV)} {ob : List (Nat × Nat)} {a : Act}
def RowsAt (w : World) (g : Gh) (s : Nat) (rows : List (List AV)) (vs : List Value) : Prop :=
  vs.length = rows.length * s ∧ (∀ r ∈ rows, r.length = s) ∧ ∀ (i : Nat) r (j : Nat) c u, rows[i]? = some r → r[j]? = some c → vs[i * s + j]? = some u → c.one = true ∧ Rep w g wh0 c u
theorem rows_all {s : Nat} {rows : List (List AV)} (h : rows.all (fun r => r.length == s) = true) : ∀ r ∈ rows, r.length = s := by
  intro r hr
  have := List.all_eq_true.1 h r hr
  simpa using this
theorem RowsAt.one {s : Nat} {rows : List (List AV)} {vs : List Value} (hs : 0 < s) (h : RowsAt w g s rows vs) : ∀ u ∈ vs, u.oneCell' = true := by
  intro u hu
  obtain ⟨k, hk⟩ := List.getElem?_of_mem hu
  have hkl : k < rows.length * s := by rw [← h.1]; exact (List.getElem?_eq_some_iff.1 hk).1
  have hi : k / s < rows.length := Nat.div_lt_of_lt_mul (by rw [Nat.mul_comm]; exact hkl)
  have hrl := h.2.1 rows[k / s] (by simp)
  have hj : k % s < (rows[k / s]).length := by rw [hrl]; exact Nat.mod_lt _ hs
  obtain ⟨h1, h2⟩ := h.2.2 (k / s) rows[k / s] (k % s) (rows[k / s])[k % s] u (by simp [hi]) (by simp [hj]) (by rw [Nat.mul_comm, Nat.div_add_mod]; exact hk)
  exact one_rep h2 h1
theorem chunks_get (s : Nat) : ∀ (n : Nat) (cs : List AV), (chunks s n cs).length = n ∧ ∀ i, i < n → (chunks s n cs)[i]? = some ((cs.drop (i * s)).take s)
  | 0, cs => ⟨rfl, fun i h => absurd h (Nat.not_lt_zero i)⟩
  | n + 1, cs => by
    obtain ⟨h1, h2⟩ := chunks_get s n (cs.drop s)
    refine ⟨by simp [chunks, h1], fun i hi => ?_⟩
    cases i with
    | zero => simp [chunks]
    | succ i =>
      simp only [chunks, List.getElem?_cons_succ]
      rw [h2 i (by omega), List.drop_drop, show s + i * s = (i + 1) * s by rw [Nat.add_mul]; omega]
theorem rowsOf_src (hH : HR w g h) {e : TypeId} (hs : 0 < P.cellsOf e) {wh : Wh} {y : AV} {v : Value} (hy : Rep w g wh y v) {more : List (List AV)} (he : rowsOf (P.cellsOf e) (isByte P e) h y = some more) (hall : more.all (fun r => r.length == P.cellsOf e) = true)
    {tx : TypeId} (hk : (∃ e', P.underlying tx = some (.slice e')) ∨ P.underlying tx = some .string) :
    ∃ news, Src P (P.cellsOf e) tx v more.length news w ∧ RowsAt w g (P.cellsOf e) more news := by
  have hrows := rows_all hall
  have build : ∀ (F : Nat → Value), (∀ (i : Nat) r (j : Nat) c, more[i]? = some r → r[j]? = some c → c.one = true ∧ Rep w g wh0 c (F (i * P.cellsOf e + j))) →
      RowsAt w g (P.cellsOf e) more ((List.range (more.length * P.cellsOf e)).map F) := by
    intro F hF
    refine ⟨by simp, hrows, fun i r j c u hi hj hu => ?_⟩
    simp only [List.getElem?_map, Option.map_eq_some_iff] at hu
    obtain ⟨k, hk, rfl⟩ := hu
    have := (List.getElem?_eq_some_iff.1 hk).2
    simp at this
    subst this
    exact hF i r j c hi hj
  have srcS : ∀ (al : Option Addr) (c : Nat) (F : Nat → Value), (more ≠ [] → ∃ b off, al = some ⟨b, off, none⟩ ∧ ∀ k, k < more.length * P.cellsOf e → w.cell? ⟨b, off + k, none⟩ = some (F k)) →
      RowsAt w g (P.cellsOf e) more ((List.range (more.length * P.cellsOf e)).map F) →
      Src P (P.cellsOf e) tx (.slice al more.length c) more.length ((List.range (more.length * P.cellsOf e)).map F) w := by
    intro al c F hal hra
    have h1 := hra.one hs
    cases al with
    | none =>
      by_cases hne : more = []
      · subst hne
        exact ⟨hk, fun _ => rfl, by simpa using run_firstCells_none w (P.cellsOf e) 0 0 c, by simpa using run_firstCells_none w.drew (P.cellsOf e) 0 0 c, by simp, h1⟩
      · obtain ⟨b, off, h, _⟩ := hal hne; cases h
    | some ad =>
      have hcs : ∀ (j : Nat) u, ((List.range (more.length * P.cellsOf e)).map F)[j]? = some u → w.cell? (ad.add j) = some u := by
        intro j u hj
        simp only [List.getElem?_map, Option.map_eq_some_iff] at hj
        obtain ⟨k, hk', rfl⟩ := hj
        have hkk := (List.getElem?_eq_some_iff.1 hk')
        have hkl := hkk.1
        have hke := hkk.2
        simp at hkl hke
        subst hke
        have hne : more ≠ [] := by rintro rfl; simp at hkl
        obtain ⟨b, off, ha, hc⟩ := hal hne
        cases ha
        rw [Addr.add_lit]
        exact hc j hkl
      exact ⟨hk, fun _ => rfl, run_firstCells_some w (P.cellsOf e) _ ad _ c _ (by simp) hcs, run_firstCells_some w.drew (P.cellsOf e) _ ad _ c _ (by simp) (by simpa using hcs), by simp, h1⟩
  have row_mul : ∀ (i j : Nat), j < P.cellsOf e → (i * P.cellsOf e + j) / P.cellsOf e = i ∧ (i * P.cellsOf e + j) % P.cellsOf e = j := by
    intro i j hj
    rw [Nat.add_comm, Nat.add_mul_div_right _ _ hs, Nat.add_mul_mod_self_right, Nat.div_eq_of_lt hj, Nat.mod_eq_of_lt hj]
    exact ⟨by omega, rfl⟩
  have divmod : ∀ k, k < more.length * P.cellsOf e → k / P.cellsOf e < more.length ∧ k % P.cellsOf e < P.cellsOf e ∧ k / P.cellsOf e * P.cellsOf e + k % P.cellsOf e = k := by
    intro k hk
    exact ⟨Nat.div_lt_of_lt_mul (by rw [Nat.mul_comm]; exact hk), Nat.mod_lt _ hs, by rw [Nat.mul_comm]; exact Nat.div_add_mod _ _⟩
  unfold rowsOf at he
  split at he
  · rename_i rows o
    cases he
    cases hy with
    | @list _ _ _ al n c b off s f hn hc ha hss h1 h2 hr =>
      subst hn
      have hsz : more ≠ [] → s = P.cellsOf e := by
        intro hne
        cases more with
        | nil => exact absurd rfl hne
        | cons r0 rs => rw [← hss r0 (by simp), hrows r0 (by simp)]
      have hra := build (fun k => f (k / P.cellsOf e) (k % P.cellsOf e)) (fun i r j c' hi hj => by
        have hjl : j < P.cellsOf e := by rw [← hrows r (List.mem_of_getElem? hi)]; exact (List.getElem?_eq_some_iff.1 hj).1
        obtain ⟨e1, e2⟩ := row_mul i j hjl
        rw [e1, e2]
        exact ⟨(h1 i r j c' hi hj).1, h2 i r j c' hi hj⟩)
      refine ⟨_, srcS al c _ (fun hne => ⟨b, off, ha hne, fun k hk => ?_⟩) hra, hra⟩
      obtain ⟨d1, d2, d3⟩ := divmod k hk
      have hss' := hsz hne
      subst hss'
      have hi : more[k / P.cellsOf e]? = some more[k / P.cellsOf e] := by simp [d1]
      have hrl := hrows more[k / P.cellsOf e] (by simp)
      have hj : (more[k / P.cellsOf e])[k % P.cellsOf e]? = some (more[k / P.cellsOf e])[k % P.cellsOf e] := by simp [hrl, d2]
      have := (h1 _ _ _ _ hi hj).2.2
      rw [Nat.add_assoc, d3] at this
      exact this
  · rename_i id off len s'
    split at he
    · rename_i cells ro hid
      split at he
      · rename_i hc0
        cases he
        obtain ⟨rfl, hle⟩ := hc0
        obtain ⟨cl1, cl2⟩ := chunks_get (P.cellsOf e) len (cells.drop off)
        have hml : (((chunks (P.cellsOf e) len (cells.drop off)).map (·.map AV.copyCell))).length = len := by simp [cl1]
        cases hy with
        | @slc _ _ _ _ _ al c hlc hac =>
          have hcell : ∃ F : Nat → Value, (0 < len → ∃ b, al = some ⟨b, off, none⟩ ∧ ∀ k, k < len * P.cellsOf e → w.cell? ⟨b, off + k, none⟩ = some (F k)) ∧ ∀ k c', k < len * P.cellsOf e → cells[off + k]? = some c' → c'.one = true ∧ Rep w g wh0 c' (F k) := by
            by_cases hl0 : 0 < len
            · rcases hac with rfl | ⟨b, rfl, ho⟩
              · omega
              · cases hH.obj id _ hid ⟨_, ho⟩ with
                | @arr _ _ b' cs ty fz ho' hb hsz hcs hro =>
                  obtain rfl := hH.inj _ _ _ ho ho'
                  refine ⟨fun k => cs.getD (off + k) undef, fun _ => ⟨b, rfl, fun k hk => ?_⟩, fun k c' hk hc' => ?_⟩
                  · have : off + k < cs.size := by omega
                    simp [World.cell?, hb, this]
                  · have hlt : off + k < cs.size := by omega
                    obtain ⟨h1, h2⟩ := hcs (off + k) c' cs[off + k] hc' (by simp [hlt])
                    exact ⟨h1, by simpa [hlt] using h2.weak⟩
            · exact ⟨fun _ => undef, fun h => absurd h hl0, fun k _ hk => by
                have : len = 0 := by omega
                subst this; simp at hk⟩
          obtain ⟨F, hF1, hF2⟩ := hcell
          have hra := build F (fun i r j c' hi hj => by
            have hil : i < len := by have := (List.getElem?_eq_some_iff.1 hi).1; omega
            simp only [List.getElem?_map, cl2 i hil, Option.map_some, Option.some.injEq] at hi
            subst hi
            simp only [List.getElem?_map, Option.map_eq_some_iff] at hj
            obtain ⟨c0, hc0, rfl⟩ := hj
            rw [List.getElem?_take] at hc0
            split at hc0
            · rename_i hjl
              rw [List.getElem?_drop, List.getElem?_drop] at hc0
              have hlt : i * P.cellsOf e + j < len * P.cellsOf e := by
                have : (i + 1) * P.cellsOf e ≤ len * P.cellsOf e := Nat.mul_le_mul_right _ (by omega)
                rw [Nat.add_mul] at this; omega
              obtain ⟨h1, h2⟩ := hF2 (i * P.cellsOf e + j) c0 hlt (by rw [← hc0])
              refine ⟨?_, h2.copyCell⟩
              cases c0 with
              | list rows ow => cases ow <;> rfl
              | undef => simp [AV.one] at h1
              | agg => simp [AV.one] at h1
              | tuple => simp [AV.one] at h1
              | _ => rfl
            · cases hc0)
          have key : ((chunks (P.cellsOf e) len (cells.drop off)).map (·.map AV.copyCell)) ≠ [] → ∃ b o, al = some ⟨b, o, none⟩ ∧ ∀ k, k < ((chunks (P.cellsOf e) len (cells.drop off)).map (·.map AV.copyCell)).length * P.cellsOf e → w.cell? ⟨b, o + k, none⟩ = some (F k) := by
            intro hne
            have hl0 : 0 < len := by
              rcases Nat.eq_zero_or_pos len with h | h
              · subst h; exact absurd (List.eq_nil_of_length_eq_zero hml) hne
              · exact h
            obtain ⟨b, hb1, hb2⟩ := hF1 hl0
            exact ⟨b, off, hb1, by rw [hml]; exact hb2⟩
          have fin := srcS al c F key hra
          refine ⟨_, ?_, hra⟩
          have e1 : Value.slice al len c = Value.slice al ((chunks (P.cellsOf e) len (cells.drop off)).map (·.map AV.copyCell)).length c := by rw [hml]
          rw [e1]
          exact fin
      · cases he
    · cases he
  · rename_i bs
    split at he
    · rename_i hc0
      cases he
      simp only [Bool.and_eq_true, beq_iff_eq] at hc0
      cases hy
      refine ⟨byteCells ⟨bs.toArray⟩, ?_, ?_, ?_, ?_⟩
      · rw [hc0.2]
        have := firstCells_string (P := P) ⟨bs.toArray⟩
        refine ⟨hk, fun _ => by simp [Builtin.lenOf, str_size], by simpa [str_size] using this w, by simpa [str_size] using this w.drew, by rw [byteCells_length, str_size]; simp, ?_⟩
        intro u hu
        simp only [byteCells, List.mem_map] at hu
        obtain ⟨_, _, rfl⟩ := hu
        rfl
      · rw [byteCells_length, str_size, hc0.2]; simp
      · exact hrows
      · intro i r j c u hi hj hu
        rw [hc0.2] at hu
        simp only [List.getElem?_map, Option.map_eq_some_iff] at hi
        obtain ⟨x, hx, rfl⟩ := hi
        cases j with
        | succ j => simp [byteRow] at hj
        | zero =>
          simp [byteRow] at hj
          subst hj
          simp only [byteCells, Nat.mul_one, Nat.add_zero, List.getElem?_map, Option.map_eq_some_iff] at hu
          obtain ⟨y, hy, rfl⟩ := hu
          have : bs[i]? = some y := hy
          rw [hx] at this
          cases this
          exact ⟨rfl, .int⟩
    · cases he
  · cases he
theorem RowsAt.mono {w' : World} {g' : Gh} (m : Mono w g w' g') {s : Nat} {rows : List (List AV)} {vs : List Value} (h : RowsAt w g s rows vs) : RowsAt w' g' s rows vs :=
  ⟨h.1, h.2.1, fun i r j c u hi hj hu => ⟨(h.2.2 i r j c u hi hj hu).1, (h.2.2 i r j c u hi hj hu).2.mono m Moves.none⟩⟩
theorem RowsAt.append {s : Nat} {xs ys : List (List AV)} {us vs : List Value} (h1 : RowsAt w g s xs us) (h2 : RowsAt w g s ys vs) : RowsAt w g s (xs ++ ys) (us ++ vs) := by
  refine ⟨by simp [h1.1, h2.1, Nat.add_mul], fun r hr => by rcases List.mem_append.1 hr with h | h; exact h1.2.1 r h; exact h2.2.1 r h, fun i r j c u hi hj hu => ?_⟩
  have hrl : r.length = s := by rcases List.mem_append.1 (List.mem_of_getElem? hi) with h | h; exact h1.2.1 r h; exact h2.2.1 r h
  have hjs : j < s := by rw [← hrl]; exact (List.getElem?_eq_some_iff.1 hj).1
  by_cases hl : i < xs.length
  · rw [List.getElem?_append_left hl] at hi
    have : i * s + j < us.length := by
      rw [h1.1]
      have : (i + 1) * s ≤ xs.length * s := Nat.mul_le_mul_right _ (by omega)
      rw [Nat.add_mul] at this; omega
    rw [List.getElem?_append_left this] at hu
    exact h1.2.2 i r j c u hi hj hu
  · rw [List.getElem?_append_right (by omega)] at hi
    have hle : us.length ≤ i * s + j := by
      rw [h1.1]
      have : xs.length * s ≤ i * s := Nat.mul_le_mul_right _ (by omega)
      omega
    rw [List.getElem?_append_right hle, h1.1] at hu
    have e : i * s + j - xs.length * s = (i - xs.length) * s + j := by
      rw [Nat.sub_mul]
      have : xs.length * s ≤ i * s := Nat.mul_le_mul_right _ (by omega)
      omega
    rw [e] at hu
    exact h2.2.2 _ r j c u hi hj hu
theorem list_of_rows {w' : World} {g' : Gh} {wh : Wh} {s : Nat} {rows : List (List AV)} {vs : List Value} {b off n c : Nat} {o : Own} (hra : RowsAt w' g' s rows vs) (hn : n = rows.length) (hc : n ≤ c)
    (hcell : ∀ k, k < rows.length * s → g'.st b (off + k) ∧ w'.cell? ⟨b, off + k, none⟩ = vs[k]?) (hroom : Room w' g' (wh 0 0) o (some ⟨b, off, none⟩) n c) : Rep w' g' wh (.list rows o) (.slice (some ⟨b, off, none⟩) n c) := by
  have lt : ∀ (i : Nat) (r : List AV) (j : Nat) (cl : AV), rows[i]? = some r → r[j]? = some cl → i * s + j < rows.length * s ∧ ∃ u, vs[i * s + j]? = some u := by
    intro i r j cl hi hj
    have hil := (List.getElem?_eq_some_iff.1 hi).1
    have hjs : j < s := by rw [← hra.2.1 r (List.mem_of_getElem? hi)]; exact (List.getElem?_eq_some_iff.1 hj).1
    have : (i + 1) * s ≤ rows.length * s := Nat.mul_le_mul_right _ (by omega)
    rw [Nat.add_mul] at this
    have hlt : i * s + j < rows.length * s := by omega
    exact ⟨hlt, ⟨vs[i * s + j]'(by rw [hra.1]; exact hlt), by simp [show i * s + j < vs.length by rw [hra.1]; exact hlt]⟩⟩
  refine .list b off s (fun i j => (vs[i * s + j]?).getD undef) hn hc (fun _ => rfl) hra.2.1 (fun i r j cl hi hj => ?_) (fun i r j cl hi hj => ?_) hroom
  · obtain ⟨h1, u, h2⟩ := lt i r j cl hi hj
    obtain ⟨h3, h4⟩ := hcell _ h1
    refine ⟨(hra.2.2 i r j cl u hi hj h2).1, by rw [Nat.add_assoc]; exact h3, ?_⟩
    rw [Nat.add_assoc, h4, h2]; rfl
  · obtain ⟨h1, u, h2⟩ := lt i r j cl hi hj
    rw [h2]
    exact (hra.2.2 i r j cl u hi hj h2).2
theorem rows_of_list {wh : Wh} {s : Nat} (hs : 0 < s) {rows : List (List AV)} {o : Own} {al : Option Addr} {n c : Nat} (hr : Rep w g wh (.list rows o) (.slice al n c)) (hall : ∀ r ∈ rows, r.length = s) :
    n = rows.length ∧ n ≤ c ∧ Room w g (wh 0 0) o al n c ∧ ∃ vs, RowsAt w g s rows vs ∧ (rows ≠ [] → ∃ b off, al = some ⟨b, off, none⟩ ∧ ∀ k, k < rows.length * s → g.st b (off + k) ∧ w.cell? ⟨b, off + k, none⟩ = vs[k]?) := by
  cases hr with
  | @list _ _ _ _ _ _ b off s' f hn hc ha hss h1 h2 hroom =>
    refine ⟨hn, hc, hroom, (List.range (rows.length * s)).map (fun k => f (k / s) (k % s)), ⟨by simp, hall, fun i r j cl u hi hj hu => ?_⟩, fun hne => ⟨b, off, ha hne, fun k hk => ?_⟩⟩
    · simp only [List.getElem?_map, Option.map_eq_some_iff] at hu
      obtain ⟨k, hk, rfl⟩ := hu
      have := (List.getElem?_eq_some_iff.1 hk).2
      simp at this
      subst this
      have hjs : j < s := by rw [← hall r (List.mem_of_getElem? hi)]; exact (List.getElem?_eq_some_iff.1 hj).1
      rw [Nat.add_comm, Nat.add_mul_div_right _ _ hs, Nat.add_mul_mod_self_right, Nat.div_eq_of_lt hjs, Nat.mod_eq_of_lt hjs, Nat.zero_add]
      exact ⟨(h1 i r j cl hi hj).1, h2 i r j cl hi hj⟩
    · have hss' : s' = s := by
        cases rows with
        | nil => exact absurd rfl hne
        | cons r0 rs => rw [← hss r0 (by simp), hall r0 (by simp)]
      subst hss'
      have d1 : k / s' < rows.length := Nat.div_lt_of_lt_mul (by rw [Nat.mul_comm]; exact hk)
      have d2 := Nat.mod_lt k hs
      have d3 : k / s' * s' + k % s' = k := by rw [Nat.mul_comm]; exact Nat.div_add_mod _ _
      have hrl := hall rows[k / s'] (by simp)
      have := h1 (k / s') rows[k / s'] (k % s') (rows[k / s'])[k % s'] (by simp [d1]) (by simp [hrl, d2])
      rw [Nat.add_assoc, d3] at this
      refine ⟨this.2.1, ?_⟩
      rw [this.2.2]
      simp [hk]
end
end Go.Ve

namespace Go.Ve
open Go
section
variable {P : Program} {w : World} {g : Gh} {h : H} {fr : List (Nat × AV)} {ob : List (Nat × Nat)} {a : Act}
def toDst (d : Option Tmp) : Loc → Loc
  | .res p c => match d with
    | some d => .tmp d p c
    | none => .res p c
  | l => l
theorem toDst_turn (d : Option Tmp) : Turn (toDst d) where
  obj _ := rfl
  cell _ _ := rfl
  back l id h := by
    cases l <;> simp [toDst] at h
    · exact congrArg _ h
    · cases d <;> simp at h
theorem OpOk.res {o : Oper} {v : AV} {m : Nat} (hx : ∃ n u w' g', (execOp a.eval o).run P w = .ok n w' ∧ (n = .value u ∨ n = .skip ∧ u = undef) ∧ Ev w g w' g' ∧ HR w' g' h ∧ FR w' g' fr ob a.tmps ∧
    Rep w' g' (fun p c => if m.testBit p then some (.res p c) else none) v u) : OpOk P a o fr ob m v h w g := by
  obtain ⟨n, u, w', g', h1, h2, h3, h4, h5, h6⟩ := hx
  have tn := toDst_turn o.dst
  refine ⟨n, u, w', _, h1, h2, h3.trans tn.ev, tn.hr h4, tn.fr h5 (fun t p c hb => ⟨hb, rfl⟩), tn.rep h6 ?_⟩
  intro p c l' hl
  unfold whD at hl
  cases hd : o.dst with
  | none => rw [hd] at hl; cases hl
  | some d =>
    rw [hd] at hl
    simp only at hl
    split at hl
    · rename_i hb
      cases hl
      exact ⟨.res p c, by simp [hb], by simp [toDst]⟩
    · cases hl
theorem isSlice_und {t : TypeId} (h : isSlice P t = true) : ∃ e, P.underlying t = some (.slice e) := by
  unfold isSlice at h
  split at h
  · exact ⟨_, by assumption⟩
  · cases h
theorem isStr_und {t : TypeId} (h : isStr P t = true) : P.underlying t = some .string := by
  unfold isStr at h
  split at h
  · assumption
  · cases h
theorem elemOf_und {t e : TypeId} (h : elemOf P t = some e) : P.underlying t = some (.slice e) := by
  unfold elemOf at h
  split at h
  · cases h; assumption
  · cases h
theorem room_write {b off : Nat} {cs : Array Value} {ty : TypeId} {f : Nat × Nat} {p c : Nat} (hH : HR w g h) (hb : w.heap[b]? = some (.cells cs ty f)) (ho : g.own b = some (.res p c)) (news : List Value) (hle : off + news.length ≤ cs.size)
    (hst : ∀ k, off ≤ k → ¬ g.st b k) :
    ∃ cs', (w.setCells b off news).heap[b]? = some (.cells cs' ty f) ∧ cs'.size = cs.size ∧
      let g' : Gh := ⟨g.own, fun b' k => g.st b' k ∨ b' = b ∧ off ≤ k ∧ k < off + news.length, g.rsv⟩
      Ev w g (w.setCells b off news) g' ∧ HR (w.setCells b off news) g' h ∧ (∀ l, l ≠ .res p c → Keeps w g (w.setCells b off news) g' l l) ∧
      ∀ k, off ≤ k → k < off + news.length → (w.setCells b off news).cell? ⟨b, k, none⟩ = news[k - off]? := by
  obtain ⟨⟨cs', e1, e2, e3⟩, e4, e5⟩ := setCells_at news w b off cs ty f hb hle
  obtain ⟨o1, o2⟩ := setCells_os w b off news
  have hbl : b < w.heap.size := hH.lt b _ ho
  refine ⟨cs', e1, e2, ?_⟩
  intro g'
  have keep : ∀ l, l ≠ .res p c → Keeps w g (w.setCells b off news) g' l l := by
    intro l hl b' hb'
    have hne : b' ≠ b := by rintro rfl; rw [ho] at hb'; cases hb'; exact hl rfl
    exact ⟨hb', e4 b' hne, fun k hk => by rcases hk with h | ⟨h, _⟩; exact h; exact absurd h hne⟩
  have ev : Ev w g (w.setCells b off news) g' := by
    refine ⟨by rw [e5]; exact Nat.le_refl _, fun b' k hs => ⟨.inl hs, ?_⟩, fun b' id hb' => hb', fun b' hlt hb' => ?_, o1, o2, fun _ h => h⟩
    · by_cases hne : b' = b
      · subst hne
        have hk : ¬ off ≤ k := fun hk => hst k hk hs
        have : cs'[k]? = cs[k]? := by rw [e3 k, if_neg (by omega)]
        simp [World.cell?, e1, hb, this]
      · simp [World.cell?, e4 b' hne]
    · have hne : b' ≠ b := by rintro rfl; rw [ho] at hb'; cases hb'
      exact ⟨hb', e4 b' hne, fun k hk => by rcases hk with h | ⟨h, _⟩; exact h; exact absurd h hne⟩
  refine ⟨ev, ?_, keep, ?_⟩
  · refine ⟨fun id o hid ht => (hH.obj id o hid ht).mono ev.mono (fun b' hb' => (keep _ (by simp) b' hb').2) (fun j => keep _ (by simp)), hH.inj, fun b' l hl => by rw [e5]; exact hH.lt b' l hl, hH.bd, fun b' k hs => ?_, hH.rsv, hH.rlt⟩
    rw [e5]
    rcases hs with hs | ⟨rfl, _⟩
    · exact hH.stlt b' k hs
    · exact hbl
  · intro k h1 h2
    have : cs'[k]? = news[k - off]? := by rw [e3 k, if_pos ⟨h1, h2⟩]
    simp [World.cell?, e1, this]
theorem append_ok (hH : HR w g h) (hF : FR w g fr ob a.tmps) {A : FAnn} {r i : Nat} {o : Oper} {x y : Operand} {t t2 e : TypeId} {cl : Call} (ho : o.op = .call cl) (hcb : cl.callee = .builtin .append) (hargs : cl.args.toList = [x, y]) (hts : cl.argTypes.toList = [t, t2])
    (he : elemOf P t = some e) (hk2 : (isSlice P t2 || isStr P t2) = true) {v : AV} (hv : appendTo P e h ((mOf A r i ob x).testBit 0) (vOf fr x) (vOf fr y) = some v) :
    OpOk P a o fr (obOff A r i ob x) full v h w g := by
  have hkind : (∃ e', P.underlying t2 = some (.slice e')) ∨ P.underlying t2 = some .string := by
    rcases Bool.or_eq_true_iff.1 hk2 with hk | hk
    · exact .inl (isSlice_und hk)
    · exact .inr (isStr_und hk)
  have ht := elemOf_und he
  have hca : cl.args = #[x, y] := by
    have : cl.args = (cl.args.toList).toArray := by simp
    rw [this, hargs]
  have hct : cl.argTypes = #[t, t2] := by
    have : cl.argTypes = (cl.argTypes.toList).toArray := by simp
    rw [this, hts]
  have hrun : ∀ n w', (Builtin.append_ #[t, t2] o.type #[a.eval x, a.eval y]).run P w = .ok n w' → (execOp a.eval o).run P w = .ok (.value n) w' := by
    intro n w' hr
    simp [execOp, ho, resolve, hcb, hca, hct, invoke, builtin, hr]
  refine OpOk.res ?_
  unfold appendTo at hv
  split at hv
  · rename_i z hz
    split at hv
    · rename_i hzc
      obtain ⟨zv, _, _, hzrep, hzi⟩ := zero_sound (P := P) (w := w) (g := g) (wh := wh0) hz
      obtain ⟨zc1, zc2⟩ := hzrep.cells hzc.2
      obtain ⟨i0, hi0, hiz⟩ : ∃ i0, P.info? e = some i0 ∧ i0.zero = some zv := by
        cases hi : P.info? e with
        | none => simp [hi] at hzi
        | some i0 => exact ⟨i0, rfl, by simpa [hi] using hzi⟩
      have hsize : i0.size = P.cellsOf e := by simp [Program.cellsOf, hi0]
      have hbytes : i0.bytes = P.bytesOf e := by simp [Program.bytesOf, hi0]
      obtain ⟨g1, e1, hH1, hF1, hr⟩ := take_give hH hF (A := A) (r := r) (i := i) x (fun p c => .res p c) (by intros; simp)
      have hy := hF1.eval (a := a) y
      unfold apSlice at hv
      split at hv
      · rename_i rows ow hxv
        simp only [Option.bind_eq_some_iff] at hv
        obtain ⟨more, hmore, hv⟩ := hv
        split at hv
        · rename_i hc
          obtain ⟨hmay, hs0, hrall, hmall, hfit, h46⟩ := hc
          cases hv
          have hs : 0 < P.cellsOf e := Nat.pos_of_ne_zero hs0
          rw [hxv] at hr
          obtain ⟨news, hsrc, hra2⟩ := rowsOf_src hH1 hs hy hmore hmall hkind
          generalize hux : a.eval x = ux at hr hrun
          cases ux with
          | slice al n c =>
            obtain ⟨rfl, hnc, hroom, olds, hra1, hcells⟩ := rows_of_list hs hr (rows_all hrall)
            have hroom' : c = rows.length ∨ ∃ b off cs ty f, al = some ⟨b, off, none⟩ ∧ g1.own b = some (.res 0 0) ∧ w.heap[b]? = some (.cells cs ty f) ∧ off + c * P.cellsOf e ≤ cs.size ∧
                (∀ k, off + rows.length * P.cellsOf e ≤ k → ¬ g1.st b k) ∧ (∀ k, off + rows.length * P.cellsOf e ≤ k → k < off + c * P.cellsOf e → w.frozen? ⟨b, k, none⟩ = false) := by
              cases ow with
              | no => cases hmay
              | cap => exact .inl hroom
              | nil => cases hmay
              | mem => cases hmay
              | own s' =>
                simp only [mayApp, Bool.and_eq_true, beq_iff_eq] at hmay
                obtain ⟨rfl, hm⟩ := hmay
                exact hroom (.res 0 0) (by simp [hm])
            have hra := hra1.append hra2
            have hlenr : (rows ++ more).length = rows.length + more.length := by simp
            rcases Nat.eq_zero_or_pos more.length with hm0 | hmp
            ·
              have hmn : more = [] := List.eq_nil_of_length_eq_zero hm0
              subst hmn
              have hnn : news = [] := List.eq_nil_of_length_eq_zero (by rw [hra2.1]; simp)
              subst hnn
              refine ⟨_, _, w, g1, hrun _ _ (run_append_nothing w t t2 o.type e i0 ht hi0 al rows.length c hnc (a.eval y) (by rw [hsize]; exact hsrc)), .inl rfl, e1, hH1, hF1, ?_⟩
              simp only [List.append_nil]
              have hw : Room w g1 (some (.res 0 0)) (.own (P.cellsOf e)) al rows.length c := by
                intro l' hl'
                cases hl'
                exact hroom'
              cases hr with
              | list b off s f hn hc ha hss h1 h2 _ => exact .list b off s f hn hc ha hss h1 h2 (by simpa [full] using hw)
            · by_cases hfitc : rows.length + more.length ≤ c
              ·
                rcases hroom' with hcn | ⟨b, off, cs, ty, f, rfl, hob, hb, hsz, hst, hfz⟩
                · omega
                · have hnl : news.length = more.length * P.cellsOf e := hra2.1
                  have hmul : (rows.length + more.length) * P.cellsOf e ≤ c * P.cellsOf e := Nat.mul_le_mul_right _ hfitc
                  rw [Nat.add_mul] at hmul
                  obtain ⟨cs', c1, c2, ev, hH2, keep, hget⟩ := room_write hH1 hb hob (off := off + rows.length * P.cellsOf e) news (by omega) hst
                  have hap := run_append_room_src (P := P) w t t2 o.type e i0 ht hi0 b off rows.length c (a.eval y) more.length news (by rw [hsize]; exact hsrc) hfitc
                    (fun j hj => by
                      have : off + rows.length * P.cellsOf e + j < cs.size := by omega
                      simp [hsize, World.cell?, hb, this])
                    (fun j hj => by rw [hsize]; exact hfz _ (by omega) (by omega))
                  rw [hsize] at hap
                  refine ⟨_, _, _, _, hrun _ _ hap, .inl rfl, e1.trans ev, hH2, hF1.mono ev.mono (fun t p c hb' => ⟨hb', keep _ (by simp)⟩), ?_⟩
                  refine list_of_rows (b := b) (off := off) (hra.mono ev.mono) (by simp) hfitc (fun k hk => ?_) ?_
                  · rw [hlenr, Nat.add_mul] at hk
                    by_cases hkl : k < rows.length * P.cellsOf e
                    · have hne : rows ≠ [] := by rintro rfl; simp at hkl
                      obtain ⟨b2, off2, hal, hcc⟩ := hcells hne
                      cases hal
                      obtain ⟨d1, d2⟩ := hcc k hkl
                      refine ⟨.inl d1, ?_⟩
                      rw [(ev.st _ _ d1).2, d2, List.getElem?_append_left (by rw [hra1.1]; exact hkl)]
                    · refine ⟨.inr ⟨rfl, by omega, by omega⟩, ?_⟩
                      rw [hget (off + k) (by omega) (by omega), List.getElem?_append_right (by rw [hra1.1]; omega), hra1.1]
                      congr 1
                      omega
                  · intro l' hl'
                    simp only [full] at hl'
                    have hl2 : l' = .res 0 0 := by simpa using hl'.symm
                    subst hl2
                    refine .inr ⟨b, off, cs', ty, f, rfl, hob, c1, by omega, fun k hk hs' => ?_, fun k hk1 hk2 => ?_⟩
                    · rw [Nat.add_mul] at hk
                      rcases hs' with h1 | ⟨_, h1, h2⟩
                      · exact hst k (by omega) h1
                      · omega
                    · rw [Nat.add_mul] at hk1
                      rw [World.frozen?_setCells]
                      exact hfz k (by omega) (by omega)
              ·
                have hge := grownCap_ge w (rows.length + more.length) c e
                have hap := run_append_grow_src (P := P) w t t2 o.type e i0 zv ht hi0 hiz al rows.length c olds (by
                    rw [hsize]
                    cases al with
                    | none =>
                      have hre : rows = [] := by
                        cases rows with
                        | nil => rfl
                        | cons r0 rs => obtain ⟨b, off, hal, _⟩ := hcells (by simp); cases hal
                      subst hre
                      have hoe : olds = [] := List.eq_nil_of_length_eq_zero (by rw [hra1.1]; simp)
                      subst hoe
                      simpa using run_firstCells_none w.drew (P.cellsOf e) 0 0 c
                    | some ad =>
                      refine run_firstCells_some w.drew (P.cellsOf e) _ ad _ c _ hra1.1 (fun j u hj => ?_)
                      have hjl : j < rows.length * P.cellsOf e := by rw [← hra1.1]; exact (List.getElem?_eq_some_iff.1 hj).1
                      have hne : rows ≠ [] := by rintro rfl; simp at hjl
                      obtain ⟨b, off, hal, hcc⟩ := hcells hne
                      cases hal
                      rw [Addr.add_lit, World.cell?_drew, (hcc j hjl).2, hj]) (a.eval y) more.length news (by rw [hsize]; exact hsrc) (by omega) (by omega) (by
                    have h1 := Go.Room.nextslicecap_le' (need := rows.length + more.length) (old := c) (by omega)
                    have h2 := Nat.mul_le_mul_right (P.bytesOf e) h1
                    rw [hbytes]
                    have h3 : 2 * (rows.length + more.length) * P.bytesOf e = 2 * ((rows.length + more.length) * P.bytesOf e) := by rw [Nat.mul_assoc]
                    omega)
                have n := new_mk_drew w g1 (.cells ((olds ++ news).toArray ++ Builtin.zeroCells zv.cells (grownCap w (rows.length + more.length) c e - (rows.length + more.length))) e) (some (.res 0 0)) (fun k => k < (rows.length + more.length) * P.cellsOf e)
                have hon : (olds ++ news).length = (rows.length + more.length) * P.cellsOf e := by rw [hra.1, hlenr]
                refine ⟨_, _, _, _, hrun _ _ hap, .inl rfl, e1.trans (n.ev hH1), n.hr hH1 (by simp), n.fr hH1 hF1, ?_⟩
                refine list_of_rows (b := w.heap.size) (off := 0) (hra.mono (n.ev hH1).mono) (by simp) hge (fun k hk => ?_) ?_
                · rw [hlenr] at hk
                  rw [n.st]
                  refine ⟨by simp; exact hk, ?_⟩
                  have : k < (olds ++ news).length := by omega
                  generalize w.drew.alloc _ = w2 at n
                  have h2 := n.at_new
                  simp only [World.cell?, h2]
                  simp only [Option.isSome_none, Bool.false_eq_true, if_false, Nat.zero_add]
                  rw [Array.getElem?_append_left (by simpa using this)]
                  simp
                · intro l' hl'
                  simp only [full] at hl'
                  have hl2 : l' = .res 0 0 := by simpa using hl'.symm
                  subst hl2
                  refine .inr ⟨w.heap.size, 0, _, e, _, rfl, by rw [n.own]; simp, n.at_new, ?_, fun k hk hs' => ?_, fun k _ _ => by have h2 := n.at_new; generalize w.drew.alloc _ = w2 at h2; simp only [World.frozen?, h2]; simp⟩
                  · have h1 : zv.cells.size = P.cellsOf e := by rw [zc1, hzc.1]
                    have h2 : (grownCap w (rows.length + more.length) c e - (rows.length + more.length)) * P.cellsOf e = grownCap w (rows.length + more.length) c e * P.cellsOf e - (rows.length + more.length) * P.cellsOf e := Nat.sub_mul _ _ _
                    have h3 : (rows.length + more.length) * P.cellsOf e ≤ grownCap w (rows.length + more.length) c e * P.cellsOf e := Nat.mul_le_mul_right _ hge
                    simp only [Array.size_append, List.size_toArray, size_zeroCells, hon, h1]
                    omega
                  · rw [n.st] at hs'
                    simp at hs'
                    omega
          | _ => cases hr
        · cases hv
      · cases hv
    · cases hv
  · cases hv
end
end Go.Ve

namespace Go.Ve
open Go
section
variable {P : Program} {w : World} {g : Gh} {h : H} {fr : List (Nat × AV)} {ob : List (Nat × Nat)} {a : Act}
theorem makeInterface_ok (hH : HR w g h) (hF : FR w g fr ob a.tmps) {o : Oper} {t : TypeId} {x : Operand} (ho : o.op = .makeInterface t x) {v : AV} (he : totOp P fr o.op = some v) : OpOk P a o fr ob 0 v h w g := by
  rw [ho] at he
  simp only [totOp] at he
  have hx := hF.eval (a := a) x
  split at he
  · cases he
  · cases he
  · rename_i hni hnn
    cases he
    cases hu : P.underlying t with
    | none => exact absurd hu hnn
    | some d =>
      refine .read hH hF (u := .iface t (a.eval x)) ?_ (.iface hx.copy)
      cases d with
      | interface l => exact absurd hu (hni l)
      | _ => simp [execOp, ho, Instr.makeInterface, run_underlying hu]
theorem makeFunc_ok (hH : HR w g h) (hF : FR w g fr ob a.tmps) {o : Oper} {f : Fn} {x y : Array Operand} (ho : o.op = .makeFunc f x y) {v : AV} (he : totOp P fr o.op = some v) : OpOk P a o fr ob 0 v h w g := by
  rw [ho] at he
  simp only [totOp] at he
  cases he
  have key : ∀ (x : Array Operand) (i : Nat) (u : AV) (v : Value), (x.toList.map fun x => (vOf fr x).copy)[i]? = some u → (x.map a.eval)[i]? = some v → Rep w g wh0 u v := by
    intro x i u v hu hv
    simp only [List.getElem?_map, Option.map_eq_some_iff, Array.getElem?_map] at hu hv
    obtain ⟨z, hz, rfl⟩ := hu
    obtain ⟨z', hz', rfl⟩ := hv
    have : z = z' := by
      rw [Array.getElem?_toList] at hz
      rw [hz] at hz'
      cases hz'; rfl
    subst this
    exact (hF.eval (a := a) z).copy
  exact .read hH hF (u := .func f (x.map a.eval) (y.map a.eval)) (by simp [execOp, ho, Instr.makeFunc]) (.func (by simp) (by simp) (key x) (key y))
theorem findKey_at {x : AV} : ∀ (es : List (AV × AV)) (i j : Nat), findKey x es i = some (some j) → ∃ e, i ≤ j ∧ es[j - i]? = some e ∧ keyEq x e.1 = some true
  | [], i, j, h => by simp [findKey] at h
  | e :: es, i, j, h => by
    unfold findKey at h
    split at h
    · rename_i hk
      cases h
      exact ⟨e, Nat.le_refl _, by simp, hk⟩
    · obtain ⟨e', h1, h2, h3⟩ := findKey_at es (i + 1) j h
      exact ⟨e', by omega, by rw [show j - i = (j - (i + 1)) + 1 by omega]; simpa using h2, h3⟩
    · cases h
theorem keyStays {x y : AV} {u v : Value} {wh wh' : Wh} (hx : Rep w g wh x u) (hy : Rep w g wh' y v) (he : keyEq x y = some true) : (Instr.keyThatStays v u).run P w = .ok u w := by
  cases x <;> cases y <;> simp [keyEq] at he
  · subst he; cases hx; cases hy; simp [Instr.keyThatStays, Instr.sameBits]
  · obtain ⟨rfl, rfl⟩ := he; cases hx; cases hy; simp [Instr.keyThatStays, Instr.sameBits]
  · subst he; cases hx; cases hy; simp [Instr.keyThatStays, Instr.sameBits, beq_toListBytes, str_toList]
theorem mapUpdate_ok (hH : HR w g h) (hF : FR w g fr ob a.tmps) {o : Oper} {t : TypeId} {m k x : Operand} (ho : o.op = .mapUpdate t m k x ∨ o.op = .insert t m k x) {p : AV × H} (he : mapUpdate P t h (vOf fr m) (vOf fr k) (vOf fr x) = some p) : OpOk P a o fr ob 0 p.1 p.2 w g := by
  have hm := hF.eval (a := a) m
  have hk := hF.eval (a := a) k
  have hx := hF.eval (a := a) x
  have hex : ∀ w', (Instr.mapUpdate t (a.eval m) (a.eval k) (a.eval x)).run P w = .ok () w' → (execOp a.eval o).run P w = .ok .skip w' := by
    intro w' h1
    rcases ho with ho | ho <;> simp [execOp, ho, h1]
  unfold mapUpdate at he
  split at he
  · rename_i kt et hu
    split at he
    · rename_i kk hkt
      obtain ⟨d, hd, hdd⟩ := keyKind_und hkt
      unfold upMap at he
      split at he
      · rename_i id hvm
        split at he
        · rename_i es hid
          split at he
          · rename_i hkey
            simp only [Option.bind_eq_some_iff] at he
            obtain ⟨r, hf, he⟩ := he
            rw [hvm] at hm
            generalize hum : a.eval m = um at hm hex
            cases hm with
            | @map _ _ b hob =>
              cases hH.obj id _ hid ⟨_, hob⟩ with
              | @map _ b' ms clock ho' hb hs hst hc =>
                obtain rfl := hH.inj _ _ _ hob ho'
                have hst' : ∀ b', g.own b' = some (.obj id) → ∀ k, ¬ g.st b' k := fun b' hb' => by rw [hH.inj _ _ _ hb' hob]; exact hst
                have hbl := hH.lt b _ hob
                have hck := run_checkKey' (P := P) hk hd hdd hkey false 9999
                have wr : ∀ o' : Obj, Wrote w g id { w with heap := w.heap.setIfInBounds b o' } := fun o' => ⟨by simp, fun b' hb' => by
                  have : b' ≠ b := fun h => hb' (by rw [h]; exact hob)
                  simp [Ne.symm this], rfl, rfl⟩
                have fin : ∀ (ms' : Array MapEntry) (clock' : Nat) (es' : List (AV × AV)), (Instr.mapUpdate t (.map (some b)) (a.eval k) (a.eval x)).run P w = .ok () { w with heap := w.heap.setIfInBounds b (.map ms' clock') } →
                    p = (.undef, h.set id (.map es')) → ms'.size = es'.length → (∀ (j : Nat) e m, es'[j]? = some e → ms'[j]? = some m → Rep w g wh0 e.1 m.key ∧ Rep w g wh0 e.2 m.val) → OpOk P a o fr ob 0 p.1 p.2 w g := by
                  intro ms' clock' es' h1 h2 h3 h4
                  subst h2
                  have wr' := wr (.map ms' clock')
                  exact ⟨_, _, _, g, hex _ h1, .inr ⟨rfl, rfl⟩, wr'.ev hst', wr'.hr hst' hH (.map (ms := ms') (clock := clock') hob (by simp [hbl]) h3 hst (fun j e m a1 a2 => ⟨(h4 j e m a1 a2).1.mono (wr'.ev hst').mono Moves.none, (h4 j e m a1 a2).2.mono (wr'.ev hst').mono Moves.none⟩)) (hH.bd b id hob), wr'.fr hst' hF, .undef⟩
                rcases findKey_sound hk hdd hkey es ms.toList 0 r (by simpa using hs) (fun j e m h1 h2 => hc j e m h1 (by simpa using h2)) hf with ⟨rfl, h2⟩ | ⟨j, mm, rfl, h2, h3⟩
                · simp only [Option.some.injEq] at he
                  refine fin (ms.push { key := a.eval k, val := a.eval x, born := clock }) (clock + 1) (es ++ [(vOf fr k, (vOf fr x).copy)]) ?_ he.symm (by simp [hs]) ?_
                  · simp [Instr.mapUpdate, run_underlying hu, MapKept.run_getObj_map hb, hck, MapKept.run_findKey (P := P) (w := w) (kt := kt) hd h2, MapKept.run_setObj_map _ hb]
                  · intro j e m h1 h2
                    rw [Array.getElem?_push] at h2
                    by_cases hj : j = ms.size
                    · subst hj
                      rw [if_pos rfl] at h2
                      rw [hs, List.getElem?_append_right (Nat.le_refl _)] at h1
                      simp at h1 h2
                      subst h1 h2
                      exact ⟨hk, hx.copy⟩
                    · rw [if_neg hj] at h2
                      have : j < es.length := by have := (Array.getElem?_eq_some_iff.1 h2).1; omega
                      rw [List.getElem?_append_left this] at h1
                      exact hc j e m h1 h2
                · simp only [Option.some.injEq] at he
                  rw [Nat.zero_add] at he h3
                  obtain ⟨e0, _, h5, h6⟩ := findKey_at es 0 (0 + j) hf
                  simp only [Nat.zero_add, Nat.sub_zero] at h5
                  have h2' : ms[j]? = some mm := by simpa using h2
                  have hks := keyStays (P := P) hk (hc j e0 mm h5 h2').1 h6
                  refine fin (ms.modify j fun e => { e with key := a.eval k, val := a.eval x }) clock (es.modify j fun _ => (vOf fr k, (vOf fr x).copy)) ?_ he.symm (by simp [hs]) ?_
                  · simp [Instr.mapUpdate, run_underlying hu, MapKept.run_getObj_map hb, hck, MapKept.run_findKey (P := P) (w := w) (kt := kt) hd h3, h2', hks, MapKept.run_setObj_map _ hb]
                  · intro j' e m h1 h2
                    rw [Array.getElem?_modify] at h2
                    rw [List.getElem?_modify] at h1
                    by_cases hj : j = j'
                    · subst hj
                      simp [h5] at h1
                      simp [h2'] at h2
                      subst h1 h2
                      exact ⟨hk, hx.copy⟩
                    · simp [hj] at h1 h2
                      exact hc j' e m h1 h2
          · cases he
        · cases he
      · cases he
    · cases he
  · cases he
theorem flat_replicate (z : List AV) (hz : 0 < z.length) : ∀ (n j : Nat), ((List.replicate n z).flatten)[j]? = if j < n * z.length then z[j % z.length]? else none
  | 0, j => by simp
  | n + 1, j => by
    rw [List.replicate_succ, List.flatten_cons]
    by_cases hj : j < z.length
    · rw [List.getElem?_append_left hj, Nat.mod_eq_of_lt hj, if_pos (by rw [Nat.add_mul]; omega)]
    · rw [List.getElem?_append_right (by omega), flat_replicate z hz n]
      have e : j % z.length = (j - z.length) % z.length := by rw [Nat.mod_eq_sub_mod (by omega)]
      rw [e, Nat.add_mul]
      by_cases h2 : j - z.length < n * z.length
      · rw [if_pos h2, if_pos (by omega)]
      · rw [if_neg h2, if_neg (by omega)]
theorem made_get (z : Array Value) (hz : 0 < z.size) (n j : Nat) (hj : j < n) : (madeCells z n)[j]? = z[j % z.size]? := by
  have : j % z.size < z.size := Nat.mod_lt _ hz
  simp [madeCells, hj, this]
theorem rows_made {z : List AV} {zs : Array Value} (hz : zs.size = z.length) (h0 : 0 < z.length) (hc : ∀ (j : Nat) c u, z[j]? = some c → zs[j]? = some u → c.one = true ∧ Rep w g wh0 c u) (n m : Nat) (hm : n * z.length ≤ m) :
    RowsAt w g z.length (List.replicate n z) ((madeCells zs m).toList.take (n * z.length)) := by
  refine ⟨by simp [size_madeCells]; omega, fun r hr => by rw [List.eq_of_mem_replicate hr], fun i r j c u hi hj hu => ?_⟩
  have hil : i < n := by have := (List.getElem?_eq_some_iff.1 hi).1; simpa using this
  have hr : r = z := by
    have := List.mem_of_getElem? hi
    exact List.eq_of_mem_replicate this
  subst hr
  have hjl := (List.getElem?_eq_some_iff.1 hj).1
  have hlt : i * r.length + j < n * r.length := by
    have : (i + 1) * r.length ≤ n * r.length := Nat.mul_le_mul_right _ (by omega)
    rw [Nat.add_mul] at this; omega
  rw [List.getElem?_take, if_pos hlt, Array.getElem?_toList, made_get zs (by omega) m _ (by omega), hz, Nat.add_comm, Nat.add_mul_mod_self_right, Nat.mod_eq_of_lt hjl] at hu
  exact hc j c u hj hu
theorem makeSlice_ok (hH : HR w g h) (hF : FR w g fr ob a.tmps) {o : Oper} {t : TypeId} {l c : Operand} (ho : o.op = .makeSlice t l c) {asList : Bool} {p : AV × H} (he : makeSlice P t asList h (vOf fr l) (vOf fr c) = some p) :
    OpOk P a o fr ob full p.1 p.2 w g := by
  have hl := hF.eval (a := a) l
  have hc := hF.eval (a := a) c
  unfold makeSlice at he
  split at he
  · rename_i e hel
    have ht := elemOf_und hel
    split at he
    · rename_i z hz
      split at he
      · rename_i hzc
        obtain ⟨hz0, hzl, hzo⟩ := hzc
        unfold mkSlice at he
        split at he
        · rename_i ln cn hvl hvc
          rw [hvl] at hl
          rw [hvc] at hc
          generalize hul : a.eval l = ul at hl
          generalize huc : a.eval c = uc at hc
          cases hl; cases hc
          split at he
          · rename_i hb
            obtain ⟨hb0, hb1, hb2, hb3⟩ := hb
            obtain ⟨zv, _, _, hzrep, hzi⟩ := zero_sound (P := P) (w := w) (g := g) (wh := wh0) hz
            obtain ⟨i0, hi0, hiz⟩ : ∃ i0, P.info? e = some i0 ∧ i0.zero = some zv := by
              cases hi : P.info? e with
              | none => simp [hi] at hzi
              | some i0 => exact ⟨i0, rfl, by simpa [hi] using hzi⟩
            have hsize : i0.size = P.cellsOf e := by simp [Program.cellsOf, hi0]
            have hbytes : i0.bytes = P.bytesOf e := by simp [Program.bytesOf, hi0]
            obtain ⟨zc1, zc2⟩ := hzrep.cells hzo
            have hrun := run_make (P := P) w t e i0 zv ht hi0 hiz .i64 .i64 ln cn hb0 hb1 (by
              rw [hbytes, Int.mul_comm]
              exact Int.le_trans hb3 (by decide)) (by omega)
            rw [hsize] at hrun
            have hex : (execOp a.eval o).run P w = .ok (.value (.slice (some ⟨w.heap.size, 0, none⟩) ln.toNat cn.toNat)) (w.alloc (.cells (madeCells zv.cells (cn.toNat * P.cellsOf e)) e)) := by
              simp [execOp, ho, hul, huc, hrun]
            have hln : ln.toNat ≤ cn.toNat := by omega
            have hmul : ln.toNat * P.cellsOf e ≤ cn.toNat * P.cellsOf e := Nat.mul_le_mul_right _ hln
            cases asList with
            | true =>
              simp only [if_true, Option.some.injEq] at he
              subst he
              refine OpOk.res ?_
              have n := new_mk w g (.cells (madeCells zv.cells (cn.toNat * P.cellsOf e)) e) (some (.res 0 0)) (fun k => k < ln.toNat * P.cellsOf e)
              refine ⟨_, _, _, _, hex, .inl rfl, n.ev hH, n.hr hH (by simp), n.fr hH hF, ?_⟩
              have hra := rows_made (zs := zv.cells) (z := z.cells) zc1 (by omega) (fun j c u h1 h2 => ⟨(zc2 j c u h1 h2).1, (zc2 j c u h1 h2).2.weak⟩) ln.toNat (cn.toNat * P.cellsOf e) (by rw [hzl]; exact hmul)
              rw [hzl] at hra
              generalize w.alloc _ = w2 at n ⊢
              have hat := n.at_new
              refine list_of_rows (b := w.heap.size) (off := 0) (hra.mono (n.ev hH).mono) (by simp) hln (fun k hk => ?_) ?_
              · simp only [List.length_replicate] at hk
                refine ⟨by rw [n.st]; simp; exact hk, ?_⟩
                simp only [World.cell?, hat, Option.isSome_none, Bool.false_eq_true, if_false, Nat.zero_add]
                rw [List.getElem?_take, if_pos hk, Array.getElem?_toList]
              · intro l' hl'
                have hl2 : l' = .res 0 0 := by simpa [full] using hl'.symm
                subst hl2
                refine .inr ⟨w.heap.size, 0, _, e, _, rfl, by rw [n.own]; simp, hat, by rw [size_madeCells]; omega, fun k hk hs' => ?_, fun k _ _ => by simp only [World.frozen?, hat]; simp⟩
                rw [n.st] at hs'
                simp at hs'
                omega
            | false =>
              simp only [Bool.false_eq_true, if_false, Option.some.injEq] at he
              subst he
              obtain ⟨zv', _, _, hzrep', hzi'⟩ := zero_sound (P := P) (w := w) (g := g) (wh := fun _ _ => some (.obj 0)) hz
              have n := new_mk w g (.cells (madeCells zv.cells (cn.toNat * P.cellsOf e)) e) (some (.obj h.length)) (fun _ => False)
              have hown : (g.new w.heap.size (some (.obj h.length)) (fun _ => False)).own w.heap.size = some (.obj h.length) := by rw [n.own]; simp
              refine ⟨_, _, _, _, hex, .inl rfl, n.ev hH, n.hr_obj rfl hH ?_, n.fr hH hF, .slc hln (.inr ⟨_, rfl, hown⟩)⟩
              have hfl : (List.replicate cn.toNat z.cells).flatten.length = cn.toNat * P.cellsOf e := by simp [hzl]
              refine arr_rep (b := w.heap.size) hown n.at_new (by rw [size_madeCells, hfl]) (fun j c v hj hv => ?_) (fun k hk => by rw [n.st] at hk; simp at hk)
              have hjl : j < cn.toNat * P.cellsOf e := by rw [← hfl]; exact (List.getElem?_eq_some_iff.1 hj).1
              rw [flat_replicate z.cells (by omega), hzl, if_pos hjl] at hj
              rw [made_get _ (by omega) _ _ hjl, zc1, hzl] at hv
              have h1 := (zc2 _ c v hj hv).1
              refine ⟨h1, ?_⟩
              obtain ⟨zv2, _, _, hr2, hi2⟩ := zero_sound (P := P) (w := w) (g := g) (wh := fun _ _ => some (.cell h.length j)) hz
              have : zv2 = zv := by rw [hzi] at hi2; cases hi2; rfl
              subst this
              exact n.rep hH ((hr2.cells hzo).2 _ c v hj hv).2
          · cases he
        · cases he
      · cases he
    · cases he
  · cases he
theorem bytes_ok (hH : HR w g h) (hF : FR w g fr ob a.tmps) {o : Oper} {src dst e : TypeId} {x : Operand} (ho : o.op = .convert src dst x) (hs : P.underlying src = some .string) (hd : P.underlying dst = some (.slice e)) {v : AV} (he : convert P src dst h (vOf fr x) = some v) :
    OpOk P a o fr ob full v h w g := by
  have hx := hF.eval (a := a) x
  simp only [convert, hs, hd] at he
  split at he
  · rename_i hb
    simp only [Bool.and_eq_true, beq_iff_eq] at hb
    have heu : P.underlying e = some (.int .u8) := by
      have := hb.1
      unfold isByte at this
      split at this
      · assumption
      · cases this
    unfold strBytes at he
    split at he
    · rename_i bs hv
      cases he
      rw [hv] at hx
      generalize hu : a.eval x = u at hx
      cases hx
      have hrun := run_bytes_of_string (P := P) w src dst e ⟨bs.toArray⟩ hs hd heu
      rw [str_size] at hrun
      generalize hcap : grownCap w bs.length 0 e = cap at hrun
      have hge : bs.length ≤ cap := by rw [← hcap]; exact grownCap_ge w bs.length 0 e
      have hbsz : (bytesRow ⟨bs.toArray⟩ cap).size = cap := by simp [bytesRow, str_size]; omega
      rw [hbsz] at hrun
      refine OpOk.res ?_
      have n : New w g (.cells (bytesRow ⟨bs.toArray⟩ cap) e (cap, cap + 1)) (some (.res 0 0)) (fun k => k < bs.length) _ (g.new w.heap.size (some (.res 0 0)) fun k => k < bs.length) := new_mk_drew w g _ _ _
      refine ⟨_, _, _, _, by simp only [execOp, ho, Sem.run_bind, hu, hrun]; rfl, .inl rfl, n.ev hH, n.hr hH (by simp), n.fr hH hF, ?_⟩
      generalize w.drew.alloc _ = w2 at n ⊢
      have hat := n.at_new
      have hra : RowsAt w g 1 (bs.map byteRow) (bs.map fun b => Value.int .u8 b.toNat) := by
        refine ⟨by simp, fun r hr => ?_, fun i r j c u hi hj hu => ?_⟩
        · obtain ⟨b, _, rfl⟩ := List.mem_map.1 hr; rfl
        · simp only [List.getElem?_map, Option.map_eq_some_iff] at hi
          obtain ⟨b, hb, rfl⟩ := hi
          cases j with
          | succ j => simp [byteRow] at hj
          | zero =>
            simp [byteRow] at hj
            subst hj
            simp only [Nat.mul_one, Nat.add_zero, List.getElem?_map, hb, Option.map_some, Option.some.injEq] at hu
            subst hu
            exact ⟨rfl, .int⟩
      refine list_of_rows (b := w.heap.size) (off := 0) (hra.mono (n.ev hH).mono) (by simp) hge (fun k hk => ?_) ?_
      · simp only [List.length_map, Nat.mul_one] at hk
        refine ⟨by rw [n.st]; simp; exact hk, ?_⟩
        simp only [World.cell?, hat, Option.isSome_none, Bool.false_eq_true, if_false, Nat.zero_add]
        rw [bytesRow_at _ _ _ (by simpa using hk)]
        simp [hk]
      · intro l' hl'
        have hl2 : l' = .res 0 0 := by simpa [full] using hl'.symm
        subst hl2
        refine .inr ⟨w.heap.size, 0, _, e, _, rfl, by rw [n.own]; simp, hat, by rw [hbsz]; omega, fun k hk hs' => ?_, fun k _ hk => by simp only [World.frozen?, hat]; simp; omega⟩
        rw [n.st] at hs'
        simp at hs'
        omega
    · cases he
  · cases he
end
end Go.Ve

namespace Go.Ve
open Go
section
variable {P : Program} {w : World} {g : Gh} {h : H} {fr : List (Nat × AV)} {ob : List (Nat × Nat)} {a : Act}
theorem flat_get {s : Nat} (hs : 0 < s) : ∀ (rows : List (List AV)) (j : Nat), (∀ r ∈ rows, r.length = s) → rows.flatten[j]? = (rows[j / s]?).bind fun r => r[j % s]?
  | [], j, _ => by simp
  | r :: rows, j, hall => by
    have hr := hall r (by simp)
    rw [List.flatten_cons]
    by_cases hj : j < s
    · rw [List.getElem?_append_left (by omega), Nat.div_eq_of_lt hj, Nat.mod_eq_of_lt hj]
      rfl
    · rw [List.getElem?_append_right (by omega), flat_get hs rows _ (fun r' h' => hall r' (List.mem_cons_of_mem _ h')), hr]
      have e1 : j / s = (j - s) / s + 1 := by rw [Nat.div_eq j s, if_pos ⟨hs, by omega⟩]
      have e2 : j % s = (j - s) % s := Nat.mod_eq_sub_mod (by omega)
      rw [e1, e2, List.getElem?_cons_succ]
theorem flat_len {s : Nat} : ∀ (rows : List (List AV)), (∀ r ∈ rows, r.length = s) → rows.flatten.length = rows.length * s
  | [], _ => by simp
  | r :: rows, hall => by
    rw [List.flatten_cons, List.length_append, flat_len rows (fun r' h' => hall r' (List.mem_cons_of_mem _ h')), hall r (by simp), List.length_cons, Nat.add_mul]
    omega
theorem HR.push (hH : HR w g h) (o : AObj) : HR w g (h ++ [o]) where
  obj id o' hid ht := by
    obtain ⟨b, hb⟩ := ht
    have hlt := hH.bd b id hb
    rw [List.getElem?_append_left hlt] at hid
    exact hH.obj id o' hid ⟨b, hb⟩
  inj := hH.inj
  lt := hH.lt
  bd b id hb := by have := hH.bd b id hb; simp; omega
  stlt := hH.stlt
  rsv := hH.rsv
  rlt id hr := by have := hH.rlt id hr; simp; omega
theorem appendObj_ok (hH : HR w g h) (hF : FR w g fr ob a.tmps) {A : FAnn} {r i : Nat} {o : Oper} {x y : Operand} {t t2 e : TypeId} {cl : Call} (ho : o.op = .call cl) (hcb : cl.callee = .builtin .append) (hargs : cl.args.toList = [x, y]) (hts : cl.argTypes.toList = [t, t2])
    (he : elemOf P t = some e) (hk2 : (isSlice P t2 || isStr P t2) = true) {p : AV × H} (hv : appendObj P e h (vOf fr x) (vOf fr y) = some p) :
    OpOk P a o fr (obOff A r i ob x) full p.1 p.2 w g := by
  have hkind : (∃ e', P.underlying t2 = some (.slice e')) ∨ P.underlying t2 = some .string := by
    rcases Bool.or_eq_true_iff.1 hk2 with hk | hk
    · exact .inl (isSlice_und hk)
    · exact .inr (isStr_und hk)
  have ht := elemOf_und he
  have hca : cl.args = #[x, y] := by
    have : cl.args = (cl.args.toList).toArray := by simp
    rw [this, hargs]
  have hct : cl.argTypes = #[t, t2] := by
    have : cl.argTypes = (cl.argTypes.toList).toArray := by simp
    rw [this, hts]
  have hrun : ∀ n w', (Builtin.append_ #[t, t2] o.type #[a.eval x, a.eval y]).run P w = .ok n w' → (execOp a.eval o).run P w = .ok (.value n) w' := by
    intro n w' hr
    simp [execOp, ho, resolve, hcb, hca, hct, invoke, builtin, hr]
  unfold appendObj at hv
  split at hv
  · rename_i z hz
    split at hv
    · rename_i hzc
      obtain ⟨zv, _, _, hzrep, hzi⟩ := zero_sound (P := P) (w := w) (g := g) (wh := wh0) hz
      obtain ⟨zc1, zc2⟩ := hzrep.cells hzc.2
      obtain ⟨i0, hi0, hiz⟩ : ∃ i0, P.info? e = some i0 ∧ i0.zero = some zv := by
        cases hi : P.info? e with
        | none => simp [hi] at hzi
        | some i0 => exact ⟨i0, rfl, by simpa [hi] using hzi⟩
      have hsize : i0.size = P.cellsOf e := by simp [Program.cellsOf, hi0]
      have hbytes : i0.bytes = P.bytesOf e := by simp [Program.bytesOf, hi0]
      obtain ⟨g1, e1, hH1, hF1, hr⟩ := take_give hH hF (A := A) (r := r) (i := i) x (fun p c => .res p c) (by intros; simp)
      have hy := hF1.eval (a := a) y
      unfold apObj at hv
      split at hv
      · rename_i hxv
        simp only [Option.bind_eq_some_iff] at hv
        obtain ⟨more, hmore, hv⟩ := hv
        split at hv
        · rename_i hc
          obtain ⟨hs0, hmall, hfit, h46⟩ := hc
          cases hv
          have hs : 0 < P.cellsOf e := Nat.pos_of_ne_zero hs0
          rw [hxv] at hr
          obtain ⟨news, hsrc, hra2⟩ := rowsOf_src hH1 hs hy hmore hmall hkind
          generalize hux : a.eval x = ux at hr hrun
          cases ux with
          | slice al n c =>
            obtain ⟨hn, hnc, hroom, olds, hra1, hcells⟩ := rows_of_list hs hr (by simp)
            have hn0 : n = 0 := by simpa using hn
            subst hn0
            have hc0 : c = 0 := hroom
            subst hc0
            have holds : olds = [] := List.eq_nil_of_length_eq_zero (by rw [hra1.1]; simp)
            subst holds
            have hnl : news.length = more.length * P.cellsOf e := hra2.1
            have hfl := flat_len more hra2.2.1
            rcases Nat.eq_zero_or_pos more.length with hm0 | hmp
            ·
              have hmn : more = [] := List.eq_nil_of_length_eq_zero hm0
              subst hmn
              have hnn : news = [] := List.eq_nil_of_length_eq_zero (by rw [hra2.1]; simp)
              subst hnn
              refine ⟨_, _, w, g1, hrun _ _ (run_append_nothing w t t2 o.type e i0 ht hi0 al 0 0 hnc (a.eval y) (by rw [hsize]; exact hsrc)), .inl rfl, e1, hH1.push _, hF1, ?_⟩
              exact .slc (Nat.zero_le _) (.inl rfl)
            ·
              have hge := grownCap_ge w (0 + more.length) 0 e
              have hap := run_append_grow_src (P := P) w t t2 o.type e i0 zv ht hi0 hiz al 0 0 [] (by
                  rw [hsize]
                  cases al with
                  | none => simpa using run_firstCells_none w.drew (P.cellsOf e) 0 0 0
                  | some ad => exact run_firstCells_some w.drew (P.cellsOf e) _ ad _ 0 _ (by simp) (fun j u hj => by simp at hj)) (a.eval y) more.length news (by rw [hsize]; exact hsrc) (by omega) (by omega) (by
                  have h1 := Go.Room.nextslicecap_le' (need := 0 + more.length) (old := 0) (by omega)
                  have h2 := Nat.mul_le_mul_right (P.bytesOf e) h1
                  rw [hbytes]
                  have h3 : 2 * (0 + more.length) * P.bytesOf e = 2 * ((0 + more.length) * P.bytesOf e) := by rw [Nat.mul_assoc]
                  rw [Nat.zero_add] at h2 h3 ⊢
                  omega)
              have n := new_mk_drew w g1 (.cells (([] ++ news).toArray ++ Builtin.zeroCells zv.cells (grownCap w (0 + more.length) 0 e - (0 + more.length))) e) (some (.obj h.length)) (fun _ => False)
              have hown : (g1.new w.heap.size (some (.obj h.length)) (fun _ => False)).own w.heap.size = some (.obj h.length) := by rw [n.own]; simp
              refine ⟨_, _, _, _, hrun _ _ hap, .inl rfl, e1.trans (n.ev hH1), n.hr_obj rfl hH1 ?_, n.fr hH1 hF1, (by
                show Rep _ _ _ (AV.slc h.length 0 more.length (P.cellsOf e)) _
                rw [show (AV.slc h.length 0 more.length (P.cellsOf e)) = AV.slc h.length 0 (0 + more.length) (P.cellsOf e) by rw [Nat.zero_add]]
                exact .slc hge (.inr ⟨_, rfl, hown⟩))⟩
              refine arr_rep_le (b := w.heap.size) hown n.at_new (by rw [List.length_map, hfl, ← hnl, Array.size_append, List.nil_append, List.size_toArray]; exact Nat.le_add_right _ _) (fun j c v hj hv => ?_) (fun k hk => by rw [n.st] at hk; simp at hk)
              rw [List.getElem?_map, Option.map_eq_some_iff] at hj
              obtain ⟨c0, hj, rfl⟩ := hj
              have hjl : j < more.length * P.cellsOf e := by rw [← hfl]; exact (List.getElem?_eq_some_iff.1 hj).1
              rw [flat_get hs more j hra2.2.1, Option.bind_eq_some_iff] at hj
              obtain ⟨r0, hr1, hr2⟩ := hj
              have hvn : news[j]? = some v := by
                rw [List.nil_append] at hv
                rw [Array.getElem?_append_left (by simpa [hnl] using hjl)] at hv
                simpa using hv
              have hji : j / P.cellsOf e * P.cellsOf e + j % P.cellsOf e = j := by rw [Nat.mul_comm]; exact Nat.div_add_mod j _
              obtain ⟨q1, q2⟩ := hra2.2.2 (j / P.cellsOf e) r0 (j % P.cellsOf e) c0 v hr1 hr2 (by rw [hji]; exact hvn)
              refine ⟨?_, n.rep hH1 (Rep.copyCell q2)⟩
              cases c0 with
              | list rows o => cases o <;> rfl
              | _ => first | rfl | (simp [AV.one] at q1)
          | _ => cases hr
        · cases hv
      · cases hv
    · cases hv
  · cases hv
end
end Go.Ve

namespace Go.Ve
open Go
section
variable {P : Program} {w : World} {g : Gh} {h : H} {fr : List (Nat × AV)} {ob : List (Nat × Nat)} {a : Act}
theorem canon_cells (x : AV) : x.canon.cells = x.cells.map AV.canonCell := by
  cases x <;> rfl
theorem canon_one {x : AV} (h : x.one = true) : x.canonCell.one = true := by
  cases x <;> first | exact h | rfl
theorem RowsAt.set {s : Nat} {rows : List (List AV)} {zs zs' : Array Value} {i : Nat} {row : List AV} {vs : Array Value} (h : RowsAt w g s rows zs.toList) (hr : row.length = s) (hv : vs.size = s)
    (hc : ∀ (j : Nat) c u, row[j]? = some c → vs[j]? = some u → c.one = true ∧ Rep w g wh0 c u) (hi : i < rows.length) (hsz : zs'.size = zs.size)
    (hget : ∀ j, zs'[j]? = if i * s ≤ j ∧ j < i * s + s then vs[j - i * s]? else zs[j]?) : RowsAt w g s (rows.set i row) zs'.toList := by
  refine ⟨by have := h.1; simp at this ⊢; omega, fun r hm => ?_, fun i' r j c u hi' hj hu => ?_⟩
  · rcases List.mem_or_eq_of_mem_set hm with h1 | h1
    · exact h.2.1 r h1
    · rw [h1]; exact hr
  · rw [Array.getElem?_toList, hget] at hu
    by_cases he : i' = i
    · subst he
      rw [List.getElem?_set_self (by omega)] at hi'
      cases hi'
      have hjs : j < s := by rw [← hr]; exact (List.getElem?_eq_some_iff.1 hj).1
      rw [if_pos (by omega)] at hu
      exact hc j c u hj (by simpa using hu)
    · rw [List.getElem?_set_ne (Ne.symm he)] at hi'
      have hjs : j < s := by rw [← h.2.1 r (List.mem_of_getElem? hi')]; exact (List.getElem?_eq_some_iff.1 hj).1
      have hno : ¬ (i * s ≤ i' * s + j ∧ i' * s + j < i * s + s) := by
        intro hx
        rcases Nat.lt_or_gt_of_ne he with hlt | hlt
        · have : (i' + 1) * s ≤ i * s := Nat.mul_le_mul_right _ hlt
          rw [Nat.add_mul] at this; omega
        · have : (i + 1) * s ≤ i' * s := Nat.mul_le_mul_right _ hlt
          rw [Nat.add_mul] at this; omega
      rw [if_neg hno] at hu
      exact h.2.2 i' r j c u hi' hj (by simpa using hu)
theorem fold_rows {s : Nat} : ∀ (ps : List (Nat × AV)) (vs : List (Nat × Value)) (rows : List (List AV)) (zs : Array Value) (r : List (List AV)), vs.length = ps.length → RowsAt w g s rows zs.toList →
    (∀ (j : Nat) p v, ps[j]? = some p → vs[j]? = some v → p.1 = v.1 ∧ Rep w g wh0 p.2 v.2) →
    ps.foldlM (fun rows p => if p.2.cells.length = s ∧ p.2.cells.all AV.one ∧ p.1 < rows.length then some (rows.set p.1 p.2.canon.cells) else none) rows = some r →
    ∃ rs : Array Value, Instr.fill (fun i => some (i * s, s)) zs vs = some rs ∧ RowsAt w g s r rs.toList ∧ r.length = rows.length := by
  intro ps
  induction ps with
  | nil =>
    intro vs rows zs r hl hra _ he
    cases vs with
    | nil => simp at he; subst he; exact ⟨zs, rfl, hra, rfl⟩
    | cons => simp at hl
  | cons p ps ih =>
    intro vs rows zs r hl hra hp he
    cases vs with
    | nil => simp at hl
    | cons v vs =>
      simp only [List.foldlM_cons, Option.bind_eq_bind, Option.bind_eq_some_iff] at he
      obtain ⟨rows', hr', he⟩ := he
      split at hr'
      · rename_i hc
        cases hr'
        obtain ⟨hc1, hc2, hc3⟩ := hc
        obtain ⟨e1, e2⟩ := hp 0 p v rfl rfl
        obtain ⟨d1, d2⟩ := e2.cells hc2
        have hzl : zs.size = rows.length * s := by have := hra.1; simpa using this
        have hfit : p.1 * s + s ≤ zs.size := by
          have : (p.1 + 1) * s ≤ rows.length * s := Nat.mul_le_mul_right _ hc3
          rw [Nat.add_mul] at this; omega
        have hfs := fold_set (p.1 * s) v.2.cells.toList 0 zs
        have hra' : RowsAt w g s (rows.set p.1 p.2.canon.cells) (v.2.cells.zipIdx.foldl (fun cs (c, j) => cs.setIfInBounds (p.1 * s + j) c) zs).toList := by
          refine hra.set (vs := v.2.cells) (by rw [canon_cells]; simpa using hc1) (by omega) (fun j c u hj hu => ?_) hc3 ?_ (fun j => ?_)
          · rw [canon_cells, List.getElem?_map, Option.map_eq_some_iff] at hj
            obtain ⟨c0, hc0, rfl⟩ := hj
            obtain ⟨h1, h2⟩ := d2 j c0 u hc0 hu
            exact ⟨canon_one h1, h2.weak.canonCell⟩
          · have := hfs.1
            have e : (v.2.cells.zipIdx.foldl (fun cs (c, j) => cs.setIfInBounds (p.1 * s + j) c) zs) = ((v.2.cells.toList.zipIdx 0).foldl (fun (cs : Array Value) (q : Value × Nat) => cs.setIfInBounds (p.1 * s + q.2) q.1) zs) := by
              rw [← Array.foldl_toList]; simp [Array.toList_zipIdx]
            rw [e]; exact this
          · have := hfs.2 j
            simp only [← Array.foldl_toList, Array.toList_zipIdx]
            rw [this]
            by_cases hj : p.1 * s ≤ j ∧ j < p.1 * s + s
            · rw [if_pos hj, if_pos (by simp; omega)]; simp
            · rw [if_neg hj, if_neg (by simp; omega)]
        obtain ⟨rs, f1, f2, f3⟩ := ih vs _ _ r (by simpa using hl) hra' (fun j q u hq hu => hp (j + 1) q u hq hu) he
        refine ⟨rs, ?_, f2, by rw [f3]; simp⟩
        obtain ⟨i, vv⟩ := v
        simp only at e1 d1 f1 hfit ⊢
        subst e1
        unfold Instr.fill
        simp only
        rw [if_neg (by simp; omega)]
        exact f1
      · cases hr'
theorem buildSlice_ok (hH : HR w g h) (hF : FR w g fr ob a.tmps) {o : Oper} {t : TypeId} {len : Nat} {parts : Array (Nat × Operand)} (ho : o.op = .buildSlice t len parts) {v : AV} (he : buildSlice P t len (parts.toList.map fun (p : Nat × Operand) => (p.1, vOf fr p.2)) = some v) :
    OpOk P a o fr ob 0 v h w g := by
  unfold buildSlice at he
  split at he
  · cases he
  · rename_i e hel
    have ht := elemOf_und hel
    split at he
    · rename_i z hz
      split at he
      · rename_i hc
        obtain ⟨hi, hs0, hsz, hzl, hzo⟩ := hc
        simp only [mkRows, Option.map_eq_some_iff] at he
        obtain ⟨rows, hm, rfl⟩ := he
        obtain ⟨zv, hzr, _, hzrep, hzi⟩ := zero_sound (P := P) (w := w) (g := g) (wh := wh0) hz
        obtain ⟨zc1, zc2⟩ := hzrep.cells hzo
        have hra := rows_made (zs := zv.cells) (z := z.cells) zc1 (by omega) (fun j c u h1 h2 => ⟨(zc2 j c u h1 h2).1, (zc2 j c u h1 h2).2.weak⟩) len (len * P.cellsOf e) (by rw [hzl]; exact Nat.le_refl _)
        rw [hzl, List.take_of_length_le (by simp [size_madeCells])] at hra
        obtain ⟨rs, f1, f2, f3⟩ := fold_rows (parts.toList.map fun (p : Nat × Operand) => (p.1, vOf fr p.2)) (parts.toList.map fun (p : Nat × Operand) => (p.1, a.eval p.2)) _ _ rows (by simp) hra (fun j p v hp hv => by
          simp only [List.getElem?_map, Option.map_eq_some_iff] at hp hv
          obtain ⟨q, hq, rfl⟩ := hp
          obtain ⟨q', hq', rfl⟩ := hv
          rw [hq] at hq'
          cases hq'
          exact ⟨rfl, hF.eval q.2⟩) hm
        simp only [List.length_replicate] at f3
        have hex : (execOp a.eval o).run P w = .ok (.value (.slice (some ⟨w.heap.size, 0, none⟩) len len)) (w.alloc (.cells rs e)) := by
          have h24 : ¬ (len * P.cellsOf e > 2 ^ 24) := by omega
          have h24' : ¬ (16777216 < len * P.cellsOf e) := by omega
          have hmz : (if len * P.cellsOf e = 0 then (#[] : Array Value) else zv.cells).size = if len * P.cellsOf e = 0 then 0 else zv.cells.size := by split <;> rfl
          by_cases hl0 : len * P.cellsOf e = 0
          · have hm0 : madeCells zv.cells (len * P.cellsOf e) = #[] := by rw [hl0]; simp [madeCells, Array.range_zero']
            rw [hm0] at f1
            simp [execOp, ho, Instr.buildSlice, run_underlying ht, run_sizeOf' hi, hl0, Array.range_zero', f1, newRow]
          · simp [execOp, ho, Instr.buildSlice, run_underlying ht, run_sizeOf' hi, h24', hl0, hzr, newRow]
            rw [madeCells] at f1
            simp [f1]
        have n := new_mk w g (.cells rs e) none (fun k => k < len * P.cellsOf e)
        refine ⟨_, _, _, _, hex, .inl rfl, n.ev hH, n.hr hH (by simp), n.fr hH hF, ?_⟩
        generalize w.alloc _ = w2 at n ⊢
        have hat := n.at_new
        refine list_of_rows (b := w.heap.size) (off := 0) (f2.mono (n.ev hH).mono) (by omega) (Nat.le_refl _) (fun k hk => ?_) rfl
        rw [f3] at hk
        refine ⟨by rw [n.st]; simp; exact hk, ?_⟩
        simp only [World.cell?, hat, Option.isSome_none, Bool.false_eq_true, if_false, Nat.zero_add]
        rw [Array.getElem?_toList]
      · cases he
    · cases he
end
end Go.Ve

namespace Go.Ve
open Go
section
variable {P : Program} {w : World} {g : Gh} {h : H} {fr : List (Nat × AV)} {ob : List (Nat × Nat)} {a : Act}
theorem copyCell_fix (c : AV) : c.copyCell.copyCell = c.copyCell := by
  cases c with
  | list rows o => cases o <;> rfl
  | _ => rfl
theorem ofCell_fix (v : Value) : (AV.ofCell v).copyCell = AV.ofCell v := by
  unfold AV.ofCell
  split <;> rfl
theorem ofVal_fix (v : Value) : ∀ c ∈ (AV.ofVal v).cells, c.copyCell = c := by
  intro c hc
  unfold AV.ofVal at hc
  split at hc
  · simp only [AV.cells, List.mem_map] at hc
    obtain ⟨x, _, rfl⟩ := hc
    exact ofCell_fix x
  · rename_i hna
    have : (AV.ofCell v).cells = [AV.ofCell v] := by
      unfold AV.ofCell
      split <;> rfl
    rw [this] at hc
    simp at hc
    subst hc
    exact ofCell_fix v
theorem copy_fix (x : AV) (h : x.copy.cells.all AV.one = true) : ∀ c ∈ x.copy.cells, c.copyCell = c := by
  intro c hc
  cases x with
  | agg cs =>
    simp only [AV.copy, AV.copyAgg, AV.cells, List.mem_map] at hc
    obtain ⟨x, _, rfl⟩ := hc
    exact copyCell_fix x
  | tuple vs => simp [AV.copy, AV.cells, AV.one] at h
  | list rows o => cases o <;> (simp [AV.copy, AV.copyAgg, AV.copyCell, AV.cells] at hc; subst hc; rfl)
  | _ => simp [AV.copy, AV.copyAgg, AV.copyCell, AV.cells] at hc; subst hc; rfl
theorem mkAgg_fix : ∀ (parts : List (Nat × Nat × AV)) (z : List AV) (r : AV), (∀ c ∈ z, c.copyCell = c) → (∀ p ∈ parts, ∃ x : AV, p.2.2 = x.copy) → mkAgg z parts = some r → r.copy = r := by
  have main : ∀ (parts : List (Nat × Nat × AV)) (z r : List AV), (∀ c ∈ z, c.copyCell = c) → (∀ p ∈ parts, ∃ x : AV, p.2.2 = x.copy) →
      parts.foldlM (fun cells p => if p.2.2.cells.length = p.2.1 ∧ p.2.2.cells.all AV.one = true ∧ p.1 + p.2.1 ≤ cells.length then some (cells.take p.1 ++ p.2.2.cells ++ cells.drop (p.1 + p.2.1)) else none) z = some r → ∀ c ∈ r, c.copyCell = c := by
    intro parts
    induction parts with
    | nil => intro z r hz _ h; simp at h; subst h; exact hz
    | cons p ps ih =>
      intro z r hz hp h
      simp only [List.foldlM_cons, Option.bind_eq_bind, Option.bind_eq_some_iff] at h
      obtain ⟨z', hz', h⟩ := h
      split at hz'
      · rename_i hc
        cases hz'
        refine ih _ r (fun c hm => ?_) (fun q hq => hp q (by simp [hq])) h
        obtain ⟨x, hx⟩ := hp p (by simp)
        rcases List.mem_append.1 hm with hm | hm
        · rcases List.mem_append.1 hm with hm | hm
          · exact hz c (List.mem_of_mem_take hm)
          · have := hc.2.1
            rw [hx] at this hm
            exact copy_fix x this c hm
        · exact hz c (List.mem_of_mem_drop hm)
      · cases hz'
  intro parts z r hz hp h
  simp only [mkAgg, Option.map_eq_some_iff] at h
  obtain ⟨rs, h1, rfl⟩ := h
  have := main parts z rs hz hp h1
  simp only [AV.copy, AV.copyAgg]
  congr 1
  calc rs.map AV.copyCell = rs.map id := List.map_congr_left (fun c hc => this c hc)
    _ = rs := List.map_id rs
theorem build_fix {t : TypeId} {ps : List (Nat × AV)} {r : AV} (hp : ∀ p ∈ ps, ∃ x : AV, p.2 = x.copy) (h : build P t ps = some r) : r.copy = r := by
  unfold build at h
  split at h
  · rename_i z fs hz hu
    split at h
    · refine mkAgg_fix _ _ r ?_ ?_ h
      · simp only [zero, Option.map_eq_some_iff] at hz
        obtain ⟨v, _, rfl⟩ := hz
        exact ofVal_fix v
      · intro p hm
        obtain ⟨q, hq, rfl⟩ := List.mem_map.1 hm
        exact hp q hq
    · cases h
  · rename_i z n e hz hu
    split at h
    · refine mkAgg_fix _ _ r ?_ ?_ h
      · simp only [zero, Option.map_eq_some_iff] at hz
        obtain ⟨v, _, rfl⟩ := hz
        exact ofVal_fix v
      · intro p hm
        obtain ⟨q, hq, rfl⟩ := List.mem_map.1 hm
        exact hp q hq
    · cases h
  · cases h
theorem convert_fix {src dst : TypeId} {x r : AV} (h : convert P src dst h x = some r) (hq : ¬ ∃ e, P.underlying src = some .string ∧ P.underlying dst = some (.slice e)) : r.copy = r := by
  unfold convert at h
  split at h
  · unfold cvInt at h; split at h <;> cases h; rfl
  · unfold cvStr at h; split at h <;> cases h; rfl
  · rename_i e hs hd; exact absurd ⟨e, hs, hd⟩ hq
  · split at h
    · unfold bytesStr at h
      split at h
      · simp only [Option.map_eq_some_iff] at h; obtain ⟨bs, _, rfl⟩ := h; rfl
      · split at h
        · split at h
          · simp only [Option.map_eq_some_iff] at h; obtain ⟨bs, _, rfl⟩ := h; rfl
          · cases h
        · cases h
      · cases h
    · cases h
  · cases h
theorem OpOk.read_full {o : Oper} {v : AV} {u : Value} {m : Nat} (hH : HR w g h) (hF : FR w g fr ob a.tmps) (h1 : (execOp a.eval o).run P w = .ok (.value u) w) (h2 : Rep w g wh0 v u) (hc : v.copy = v) : OpOk P a o fr ob m v h w g := by
  refine ⟨_, u, w, g, h1, .inl rfl, .refl w g, hH, hF, ?_⟩
  rw [← hc]
  exact h2.copy
theorem op_val (hH : HR w g h) (hF : FR w g fr ob a.tmps) {A : FAnn} {r i : Nat} {o : Oper} {v : AV} (hdr : A.drawn = false ∨ ∀ t, o.op ≠ .alloc t) (hk : kindOf A r i o.op = .val) (he : valOp P A r i fr ob h o.op = some v) :
    OpOk P a o fr (offOf A r i ob o.op) (maskOf A r i ob o.op) v h w g := by
  have hFe := fun x => hF.eval (a := a) x
  by_cases hr : reads A r i o.op = true
  · by_cases hq : ∃ src dst x e, o.op = .convert src dst x ∧ P.underlying src = some .string ∧ P.underlying dst = some (.slice e)
    · obtain ⟨src, dst, x, e, ho, hs, hd⟩ := hq
      rw [ho] at he
      simp only [valOp] at he
      have := bytes_ok (P := P) hH hF ho hs hd he
      rw [ho]
      exact this
    · have hq' : ∀ src dst x, o.op = .convert src dst x → ¬ ∃ e, P.underlying src = some .string ∧ P.underlying dst = some (.slice e) := fun src dst x ho ⟨e, h1, h2⟩ => hq ⟨src, dst, x, e, ho, h1, h2⟩
      obtain ⟨u, h1, h2⟩ := reads_sound (P := P) hH hFe hr hq' he
      have plain : offOf A r i ob o.op = ob → maskOf A r i ob o.op = 0 → OpOk P a o fr (offOf A r i ob o.op) (maskOf A r i ob o.op) v h w g := by
        intro e1 e2
        rw [e1, e2]
        exact .read hH hF h1 h2
      cases ho : o.op <;> rw [ho] at plain <;> try (first | exact plain rfl rfl | (rw [ho] at hr; simp [reads] at hr; done))
      case build t parts =>
        rw [ho] at he
        simp only [valOp] at he
        exact .read_full hH hF h1 h2 (build_fix (fun p hp => by
          obtain ⟨q, _, rfl⟩ := List.mem_map.1 hp
          exact ⟨_, rfl⟩) he)
      case load t x =>
        rw [ho] at hr
        simp only [reads, Bool.not_eq_true'] at hr
        exact plain rfl (by simp only [maskOf, hr]; rfl)
      case convert src dst x =>
        rw [ho] at he
        simp only [valOp] at he
        exact .read_full hH hF h1 h2 (convert_fix he (hq' _ _ _ ho))
      case call c =>
        rw [ho] at hr
        obtain ⟨callee, args, argTypes⟩ := c
        cases callee with
        | value f => simp [reads] at hr
        | invoke r m => simp [reads] at hr
        | builtin b => cases b <;> first | exact plain rfl rfl | simp [reads] at hr
  · cases ho : o.op <;> rw [ho] at hr he hk <;> simp only [reads, not_true_eq_false, not_false_eq_true] at hr <;> simp only [valOp, reduceCtorEq] at he
    case buildSlice t len parts => exact buildSlice_ok hH hF ho he
    case alloc t =>
      rcases hdr with hdr | hdr
      · rw [hdr] at he; cases he
      · exact absurd ho (hdr t)
    case load t x =>
      simp only [Bool.not_eq_true', Bool.not_eq_false] at hr
      simp only [kindOf, hr, if_true] at hk
      cases hk
    case extract x j =>
      have := extract_ok (P := P) hH hF (A := A) (r := r) (i := i) ho he
      rw [ho] at this
      exact this
    case call c =>
      obtain ⟨callee, args, argTypes⟩ := c
      cases callee with
      | value f => simp [kindOf] at hk
      | invoke r m => simp at he
      | builtin b =>
        cases b <;> first | (simp at hr; done) | (simp at he; done) | skip
        case append =>
          simp only at he
          split at he
          · rename_i x y t t2 hx ht
            split at he
            · rename_i e hel
              split at he
              · rename_i hk2
                have := append_ok (P := P) hH hF (A := A) (r := r) (i := i) ho rfl hx ht hel hk2 he
                simp only [offOf, hx, maskOf]
                exact this
              · cases he
            · cases he
          · cases he
theorem op_tot (hH : HR w g h) (hF : FR w g fr ob a.tmps) {A : FAnn} {r i : Nat} {o : Oper} {v : AV} (he : totOp P fr o.op = some v) : OpOk P a o fr (offOf A r i ob o.op) (maskOf A r i ob o.op) v h w g := by
  cases ho : o.op <;> rw [ho] at he <;> try (simp [totOp] at he; done)
  case move x => simp only [totOp, Option.some.injEq] at he; subst he; exact move_ok hH hF (.inl ho)
  case assign x => simp only [totOp, Option.some.injEq] at he; subst he; exact move_ok hH hF (.inr ho)
  case makeInterface t x => exact makeInterface_ok hH hF ho (by rw [ho]; exact he)
  case makeFunc f x y => exact makeFunc_ok hH hF ho (by rw [ho]; exact he)
theorem op_new (hH : HR w g h) (hF : FR w g fr ob a.tmps) {A : FAnn} {r i : Nat} {o : Oper} {p : AV × H} (he : newOp P h o.op = some p) : OpOk P a o fr (offOf A r i ob o.op) (maskOf A r i ob o.op) p.1 p.2 w g := by
  cases ho : o.op <;> rw [ho] at he <;> try (simp [newOp] at he; done)
  case alloc t => exact alloc_ok hH hF ho (by rw [ho]; exact he)
  case makeMap t rv =>
    cases rv with
    | none => simp only [newOp, Option.some.injEq] at he; subst he; exact makeMap_ok hH hF ho
    | some x => simp [newOp] at he
theorem op_heap (hH : HR w g h) (hF : FR w g fr ob a.tmps) {A : FAnn} {r i : Nat} {o : Oper} {p : AV × H} (hk : kindOf A r i o.op = .heap) (he : heapOp P A r i fr ob h o.op = some p) :
    OpOk P a o fr (offOf A r i ob o.op) (maskOf A r i ob o.op) p.1 p.2 w g := by
  cases ho : o.op <;> rw [ho] at he hk <;> simp only [heapOp, reduceCtorEq] at he
  case box t x => exact box_ok hH hF ho he
  case store t y x => exact store_ok hH hF ho he
  case makeSlice t l c => exact makeSlice_ok hH hF ho he
  case mapUpdate t m k x => exact mapUpdate_ok hH hF (.inl ho) he
  case insert t m k x => exact mapUpdate_ok hH hF (.inr ho) he
  case range t x =>
    split at he
    · rename_i hu
      exact range_ok hH hF ho hu he
    · cases he
  case next y s => exact next_ok hH hF ho he
  case load t x =>
    simp only [kindOf] at hk
    split at hk
    · rename_i hl
      split at he
      · rename_i hc
        have := ldTake_ok (P := P) hH hF ho hc he
        have e : maskOf A r i ob (.load t x) = full := by simp only [maskOf, hl]; rfl
        rw [e]
        exact this
      · cases he
    · cases hk
  case call c =>
    obtain ⟨callee, args, argTypes⟩ := c
    cases callee with
    | value f => simp at he
    | invoke r m => simp at he
    | builtin b =>
      cases b <;> first | (simp at he; done) | skip
      case append =>
        simp only at he
        split at he
        · rename_i x y t t2 hx ht
          split at he
          · rename_i e hel
            split at he
            · rename_i hk2
              have := appendObj_ok (P := P) hH hF (A := A) (r := r) (i := i) ho rfl hx ht hel hk2 he
              simp only [offOf, hx, maskOf]
              exact this
            · cases he
          · cases he
        · cases he
end
end Go.Ve

namespace Go.Ve
open Go
def CPost (w : World) (g : Gh) (r : AEnd × H) : Ending → World → Prop
  | .returned u, w' => ∃ v g', r.1 = .ret v ∧ Ev w g w' g' ∧ HR w' g' r.2 ∧ (∀ t p c, Keeps w g w' g' (.tmp t p c) (.tmp t p c)) ∧ Rep w' g' (fun p c => some (.res p c)) v u
  | .panicked chain, w' => ∃ v u g', r.1 = .pan v ∧ chain = [{ v := u, recovered := false }] ∧ Ev w g w' g' ∧ HR w' g' r.2 ∧ (∀ t p c, Keeps w g w' g' (.tmp t p c) (.tmp t p c)) ∧ Rep w' g' wh0 v u
  | .outgrown, _ => False
def Callee (P : Program) (f : FuncId) (args : Array Value) (w : World) (R : Ending → World → Prop) : Prop :=
  ((callFunc f args).run P w = .ok (.enter f args) w ∧ Calls P f args w R) ∨ ∃ u w', (callFunc f args).run P w = .ok (.value u) w' ∧ R (.returned u) w'
def ArgsRep (w : World) (g : Gh) (args : List AV) (vals : Array Value) : Prop := vals.size = args.length ∧ ∀ (j : Nat) x v, args[j]? = some x → vals[j]? = some v → Rep w g wh0 x v
def CallOk (P : Program) (call : Cl) : Prop := ∀ f args h r, call f args h = some r → ∀ (vals : Array Value) w g, HR w g h → ArgsRep w g args vals → Callee P f vals w (CPost w g r)
def DefRep (w : World) (g : Gh) (d : ADef) (e : Deferred) : Prop := ∃ cap, e.target = .fn (.func d.f) cap ∧ ArgsRep w g d.args (e.args ++ cap)
def DefsRep (w : World) (g : Gh) : List ADef → List Deferred → Prop
  | [], [] => True
  | d :: ds, e :: es => DefRep w g d e ∧ DefsRep w g ds es
  | _, _ => False
theorem ArgsRep.mono {w w' : World} {g g' : Gh} {args : List AV} {vals : Array Value} (ha : ArgsRep w g args vals) (m : Mono w g w' g') : ArgsRep w' g' args vals := ⟨ha.1, fun j x v hx hv => (ha.2 j x v hx hv).mono m Moves.none⟩
theorem DefsRep.mono {w w' : World} {g g' : Gh} (m : Mono w g w' g') : ∀ {ds : List ADef} {es : List Deferred}, DefsRep w g ds es → DefsRep w' g' ds es
  | [], [], _ => trivial
  | _ :: _, _ :: _, ⟨⟨cap, h1, h2⟩, h3⟩ => ⟨⟨cap, h1, h2.mono m⟩, h3.mono m⟩
  | [], _ :: _, h => h.elim
  | _ :: _, [], h => h.elim
structure M (nt : Nat) (s : St) (a : Act) (w : World) (g : Gh) : Prop where
  fr : FR w g s.fr s.ob a.tmps
  hr : HR w g s.h
  size : nt ≤ a.tmps.size
  df : DefsRep w g s.ds a.defers
def Post {R : Type} (k : K R) (res : R) (nt : Nat) (w0 : World) (g0 : Gh) : Exit → Act → World → Prop
  | .normal, a, w => ∃ s g, M nt s a w g ∧ Ev w0 g0 w g ∧ k.normal s = some res
  | .exit id, a, w => ∃ s g, M nt s a w g ∧ Ev w0 g0 w g ∧ k.exit id s = some res
  | .ret, a, w => ∃ s g, M nt s a w g ∧ Ev w0 g0 w g ∧ k.ret s = some res
  | .panic chain, a, w => ∃ s g v u, M nt s a w g ∧ Ev w0 g0 w g ∧ chain = [{ v := u, recovered := false }] ∧ Rep w g wh0 v u ∧ k.pan v s = some res
  | .goto _, _, _ => False
  | .outgrown, _, _ => False
section
variable {P : Program} {w : World} {g : Gh} {h : H} {fr : List (Nat × AV)} {ob : List (Nat × Nat)} {a : Act}
theorem getM_off {A : FAnn} {r i : Nat} {op : Op} {t p : Nat} (h : (getM t (offOf A r i ob op)).testBit p = true) : (getM t ob).testBit p = true := by
  have key : ∀ x : Operand, (getM t (obOff A r i ob x)).testBit p = true → (getM t ob).testBit p = true := by
    intro x hx
    cases x with
    | tmp t' =>
      simp only [obOff] at hx
      cases hb : A.takes r i t' with
      | false => rw [hb] at hx; exact hx
      | true =>
        rw [hb] at hx
        simp only [cond_true, getM] at hx
        cases hb2 : Nat.beq t' t with
        | true => rw [hb2] at hx; simp at hx
        | false => rw [hb2] at hx; exact hx
    | _ => exact hx
  unfold offOf at h
  split at h
  · exact key _ h
  · exact key _ h
  · exact key _ h
  · exact key _ h
  · split at h
    · exact key _ h
    · exact h
  · rename_i t' j
    simp only [strict_eq, getM] at h
    cases hb2 : Nat.beq t' t with
    | false => rw [hb2] at h; exact h
    | true =>
      have := Nat.eq_of_beq_eq_true hb2
      subst this
      rw [hb2] at h
      simp only [cond_true] at h
      cases hm : (getM t' ob).testBit j with
      | false => rw [hm] at h; exact h
      | true =>
        rw [hm] at h
        simp only [cond_true] at h
        have h' : (getM t' ob ^^^ (1 <<< j)).testBit p = true := h
        rw [Nat.testBit_xor, Nat.one_shiftLeft, Nat.testBit_two_pow] at h'
        by_cases e : j = p
        · subst e; exact hm
        · simpa [e] using h'
  · exact h
theorem FR.skip (hF : FR w g fr ob a.tmps) (A : FAnn) (r i : Nat) (op : Op) : FR w g fr (offOf A r i ob op) a.tmps :=
  hF.mono (.refl w g) fun _ _ _ hb => ⟨getM_off hb, fun _ hb => ⟨hb, rfl, fun _ h => h⟩⟩
theorem guard_of {ops : Array Oper} {fr : List (Nat × AV)} {o : Oper} {j : Nat} {want : Bool} (hg : o.guard = some (j, want)) {t : Tmp} (ht : ((ops.toList[j]?).bind (·.dst)) = some t) (hF : FR w g fr ob a.tmps) :
    (∀ b, getV t fr = .bool b → Region.wanted o (yielded ops a.tmps) = (b == want)) ∧ (getV t fr = .tuple [] → Region.wanted o (yielded ops a.tmps) = false) := by
  have hr := hF t
  rw [Array.getElem?_toList] at ht
  refine ⟨fun b hb => ?_, fun hb => ?_⟩
  · rw [hb] at hr
    generalize hu : a.tmps.getD t undef = u at hr
    cases hr
    have : a.tmps[t]? = some (.bool b) := by
      rw [Array.getD_eq_getD_getElem?] at hu
      cases hx : a.tmps[t]? with
      | none => rw [hx] at hu; simp [undef] at hu
      | some y => rw [hx] at hu; simp at hu; rw [hu]
    simp only [Region.wanted, hg, yielded, ht, Option.bind_some, this]
    try (cases b <;> cases want <;> rfl)
  · rw [hb] at hr
    generalize hu : a.tmps.getD t undef = u at hr
    cases hr with
    | @tuple _ _ vs h1 h2 =>
      have : ∀ b, a.tmps[t]? ≠ some (.bool b) := by
        intro b hx
        rw [Array.getD_eq_getD_getElem?, hx] at hu
        simp at hu
      have hy : yielded ops a.tmps j = none := by
        simp only [yielded, ht, Option.bind_some]
        try (split
             · rename_i b hx; exact absurd hx (this b)
             · rfl)
      simp [Region.wanted, hg, hy]
theorem gated_cases {α : Type} {ops : Array Oper} {fr : List (Nat × AV)} {o : Oper} {x : Option α} {y z : α} (he : gated ops.toList fr o x y = some z) (hF : FR w g fr ob a.tmps) :
    (Region.wanted o (yielded ops a.tmps) = true ∧ x = some z) ∨ (Region.wanted o (yielded ops a.tmps) = false ∧ z = y) := by
  unfold gated at he
  split at he
  · rename_i hg
    exact .inl ⟨by simp [Region.wanted, hg], he⟩
  · rename_i j want hg
    split at he
    · rename_i t ht
      obtain ⟨h1, h2⟩ := guard_of (ops := ops) hg ht hF
      unfold gate at he
      split at he
      · rename_i b hb
        have := h1 b hb
        split at he
        · rename_i hbw
          exact .inl ⟨by rw [this, hbw]; simp, he⟩
        · rename_i hbw
          cases he
          exact .inr ⟨by rw [this]; simpa using hbw, rfl⟩
      · rename_i hb
        cases he
        exact .inr ⟨h2 hb, rfl⟩
      · cases he
    · cases he
theorem undef_rep {wh : Wh} : Rep w g wh (.tuple []) undef := .tuple rfl (by simp)
theorem wp_opOk {o : Oper} {ob' : List (Nat × Nat)} {m : Nat} {v : AV} {h' : H} {nt : Nat} {next : Act → World → Prop} {Q : Exit → Act → World → Prop} (hk : OpOk P a o fr ob' m v h' w g) (hn : nt ≤ a.tmps.size)
    (hnext : ∀ (a' : Act) w' g', FR w' g' (putV nt o.dst v fr) (putM o.dst m ob') a'.tmps → HR w' g' h' → Ev w g w' g' → nt ≤ a'.tmps.size → a'.defers = a.defers → next a' w') : o.wp P a w next Q := by
  obtain ⟨n, u, w', g', h1, h2, h3, h4, h5, h6⟩ := hk
  have hp := h5.put hn h6
  unfold Oper.wp
  rw [h1]
  rcases h2 with rfl | ⟨rfl, rfl⟩
  · exact hnext _ w' g' hp h4 h3 (by rw [put_size]; exact hn) put_defers
  · exact hnext _ w' g' hp h4 h3 (by rw [put_size]; exact hn) put_defers
theorem ArgsRep.append {xs ys : List AV} {us vs : Array Value} (h1 : ArgsRep w g xs us) (h2 : ArgsRep w g ys vs) : ArgsRep w g (xs ++ ys) (us ++ vs) := by
  refine ⟨by simp [h1.1, h2.1], fun j x v hx hv => ?_⟩
  by_cases hl : j < xs.length
  · rw [List.getElem?_append_left hl] at hx
    rw [Array.getElem?_append_left (by rw [h1.1]; exact hl)] at hv
    exact h1.2 j x v hx hv
  · rw [List.getElem?_append_right (by omega)] at hx
    rw [Array.getElem?_append_right (by rw [h1.1]; omega), h1.1] at hv
    exact h2.2 _ x v hx hv
theorem args_rep (hF : FR w g fr ob a.tmps) (A : FAnn) (f : Operand) (args : Array Operand) : ArgsRep w g (callArgs A f fr args) (args.map a.eval) := by
  have key : ∀ (q : AV → AV), (∀ y, Rep w g wh0 (q (vOf fr y)) (a.eval y)) → ArgsRep w g (args.toList.map fun x => q (vOf fr x)) (args.map a.eval) := by
    intro q hq
    refine ⟨by simp, fun j x v hx hv => ?_⟩
    simp only [List.getElem?_map, Option.map_eq_some_iff, Array.getElem?_map, Array.getElem?_toList] at hx hv
    obtain ⟨y, hy, rfl⟩ := hx
    obtain ⟨y', hy', rfl⟩ := hv
    rw [hy] at hy'
    cases hy'
    exact hq y
  unfold callArgs
  cases isRaw A f with
  | true => exact key AV.copy fun y => (hF.eval (a := a) y).copy
  | false => exact key AV.canon fun y => (hF.eval (a := a) y).canon
theorem wp_call {A : FAnn} {call : Cl} (hcall : CallOk P call) (hH : HR w g h) (hF : FR w g fr ob a.tmps) {o : Oper} {c : Call} {f : Operand} (ho : o.op = .call c) (hc : c.callee = .value f) {p : AEnd × H} (he : callVal call h (vOf fr f) (callArgs A f fr c.args) = some p)
    {nt : Nat} (hn : nt ≤ a.tmps.size) {next : Act → World → Prop} {Q : Exit → Act → World → Prop}
    (hnext : ∀ (a' : Act) w' g' v, p.1 = .ret v → FR w' g' (putV nt o.dst v fr) (putM o.dst full ob) a'.tmps → HR w' g' p.2 → Ev w g w' g' → nt ≤ a'.tmps.size → a'.defers = a.defers → next a' w')
    (hpan : ∀ w' g' v u, p.1 = .pan v → FR w' g' fr ob a.tmps → HR w' g' p.2 → Ev w g w' g' → Rep w' g' wh0 v u → Q (.panic [{ v := u, recovered := false }]) a w') : o.wp P a w next Q := by
  unfold callVal at he
  split at he
  · rename_i gid first captured hvf
    have hfr := hF.eval (a := a) f
    rw [hvf] at hfr
    generalize huf : a.eval f = uf at hfr
    cases hfr with
    | @func _ _ _ _ fs cs s1 s2 r1 r2 =>
      have hargs : ArgsRep w g (first ++ (callArgs A f fr c.args) ++ captured) (fs ++ c.args.map a.eval ++ cs) :=
        (ArgsRep.append ⟨s1, r1⟩ (args_rep hF A f c.args)).append ⟨s2, r2⟩
      have hrun : (execOp a.eval o).run P w = (callFunc gid (fs ++ c.args.map a.eval ++ cs)).run P w := by
        simp [execOp, ho, resolve, hc, huf, Deferred.ofValue, invoke]
      have ret : ∀ u w', CPost w g p (.returned u) w' → next (a.put o.dst u) w' := by
        rintro u w' ⟨v, g', e1, ev, hH', keep, hr⟩
        have hF' : FR w' g' fr ob a.tmps := hF.mono ev.mono fun t p c hb => ⟨hb, keep t p c⟩
        have tn := toDst_turn o.dst
        have hF2 := tn.fr (ob' := ob) hF' (fun t p c hb => ⟨hb, rfl⟩)
        refine hnext _ w' _ v e1 (hF2.put hn (tn.rep hr ?_)) (tn.hr hH') (ev.trans tn.ev) (by rw [put_size]; exact hn) put_defers
        intro p c l' hl
        unfold whD at hl
        cases hd : o.dst with
        | none => rw [hd] at hl; cases hl
        | some d =>
          rw [hd] at hl
          simp only at hl
          split at hl
          · cases hl
            exact ⟨.res p c, rfl, by simp [toDst]⟩
          · cases hl
      unfold Oper.wp
      rw [hrun]
      rcases hcall _ _ _ _ he _ w g hH hargs with ⟨h1, h2⟩ | ⟨u, w', h1, h2⟩
      · rw [h1]
        refine h2.mono fun e w' hp => ?_
        cases e with
        | returned u => exact ret u w' hp
        | panicked chain =>
          obtain ⟨v, u, g', e1, rfl, ev, hH', keep, hr⟩ := hp
          exact hpan w' g' v u e1 (hF.mono ev.mono fun t p c hb => ⟨hb, keep t p c⟩) hH' ev hr
        | outgrown => exact hp.elim
      · rw [h1]
        exact ret u w' h2
  · cases he
theorem region_sound {R : Type} {call : Cl} (hcall : CallOk P call) {A : FAnn} (hdr : A.drawn = false) {r : Nat} {ops : Array Oper} {k : K R} {res : R} : ∀ (l : List Nat) (fr : List (Nat × AV)) (ob : List (Nat × Nat)) (ds : List ADef) (h : H) (a : Act) (w : World) (g : Gh) (w0 : World) (g0 : Gh),
    region P A call r ops.toList k (l.filterMap fun i => (ops[i]?).map fun o => (i, o)) fr ob ds h = some res → FR w g fr ob a.tmps → HR w g h → A.nt ≤ a.tmps.size → DefsRep w g ds a.defers → Ev w0 g0 w g → wpOps P ops (Post k res A.nt w0 g0) l a w
  | [], fr, ob, ds, h, a, w, g, w0, g0, he, hF, hH, hn, hd, ev => ⟨⟨fr, ob, ds, h⟩, g, ⟨hF, hH, hn, hd⟩, ev, he⟩
  | i :: l, fr, ob, ds, h, a, w, g, w0, g0, he, hF, hH, hn, hd, ev => by
    unfold wpOps
    cases hio : ops[i]? with
    | none =>
      simp only [List.filterMap_cons, hio, Option.map_none] at he
      exact region_sound hcall hdr l fr ob ds h a w g w0 g0 he hF hH hn hd ev
    | some o =>
      simp only [List.filterMap_cons, hio, Option.map_some] at he
      unfold region at he
      have skip : ∀ {m : Nat} {h' : H}, h' = h → region P A call r ops.toList k (l.filterMap fun i => (ops[i]?).map fun o => (i, o)) (putV A.nt o.dst (.tuple []) fr) (putM o.dst m (offOf A r i ob o.op)) ds h' = some res →
          wpOps P ops (Post k res A.nt w0 g0) l (a.put o.dst undef) w := by
        rintro m h' rfl he
        exact region_sound hcall hdr l _ _ _ _ _ w g w0 g0 he ((hF.skip A r i o.op).put hn undef_rep) hH (by rw [put_size]; exact hn) (by rw [put_defers]; exact hd) ev
      have done : ∀ {m : Nat} {v : AV} {h' : H}, OpOk P a o fr (offOf A r i ob o.op) m v h' w g → region P A call r ops.toList k (l.filterMap fun i => (ops[i]?).map fun o => (i, o)) (putV A.nt o.dst v fr) (putM o.dst m (offOf A r i ob o.op)) ds h' = some res →
          o.wp P a w (wpOps P ops (Post k res A.nt w0 g0) l) (Post k res A.nt w0 g0) := by
        intro m v h' hk he
        exact wp_opOk hk hn fun a' w' g' f1 f2 f3 f4 f5 => region_sound hcall hdr l _ _ _ _ a' w' g' w0 g0 he f1 f2 f4 (by rw [f5]; exact hd.mono f3.mono) (ev.trans f3)
      simp only
      have split2 : ∀ {want : Bool}, Region.wanted o (yielded ops a.tmps) = want → (want = true → o.wp P a w (wpOps P ops (Post k res A.nt w0 g0) l) (Post k res A.nt w0 g0)) → (want = false → wpOps P ops (Post k res A.nt w0 g0) l (a.put o.dst undef) w) →
          (if Region.wanted o (yielded ops a.tmps) = true then o.wp P a w (wpOps P ops (Post k res A.nt w0 g0) l) (Post k res A.nt w0 g0) ∨ (o.asks P a w ∧ LetsOut (Post k res A.nt w0 g0)) else wpOps P ops (Post k res A.nt w0 g0) l (a.put o.dst undef) w) := by
        intro want hw h1 h2
        rw [hw]
        cases want with
        | true => rw [if_pos rfl]; exact .inl (h1 rfl)
        | false => rw [if_neg (by simp)]; exact h2 rfl
      split at he
      ·
        rename_i hk
        split at he
        · rename_i v hg hv
          rw [strict_eq] at he
          exact split2 (want := true) (by simp [Region.wanted, hg]) (fun _ => done (op_tot hH hF hv) he) (by simp)
        · simp only [Option.bind_eq_some_iff] at he
          obtain ⟨v, hv, he⟩ := he
          rw [strict_eq] at he
          rcases gated_cases hv hF with ⟨hw, hx⟩ | ⟨hw, rfl⟩
          · exact split2 hw (fun _ => done (op_tot hH hF hx) he) (by simp)
          · exact split2 hw (by simp) (fun _ => skip rfl he)
        · cases he
      · rename_i hk
        split at he
        · rename_i p hg hp
          rw [strict_eq] at he
          exact split2 (want := true) (by simp [Region.wanted, hg]) (fun _ => done (op_new hH hF hp) he) (by simp)
        · simp only [Option.bind_eq_some_iff] at he
          obtain ⟨p, hp, he⟩ := he
          rw [strict_eq] at he
          rcases gated_cases hp hF with ⟨hw, hx⟩ | ⟨hw, rfl⟩
          · exact split2 hw (fun _ => done (op_new hH hF hx) he) (by simp)
          · exact split2 hw (by simp) (fun _ => skip rfl he)
        · cases he
      · rename_i hk
        simp only [Option.bind_eq_some_iff] at he
        obtain ⟨v, hv, he⟩ := he
        rw [strict_eq] at he
        rcases gated_cases hv hF with ⟨hw, hx⟩ | ⟨hw, rfl⟩
        · exact split2 hw (fun _ => done (op_val hH hF (.inl hdr) hk hx) he) (by simp)
        · exact split2 hw (by simp) (fun _ => skip rfl he)
      · rename_i hk
        simp only [Option.bind_eq_some_iff] at he
        obtain ⟨p, hp, he⟩ := he
        rw [strict_eq] at he
        rcases gated_cases hp hF with ⟨hw, hx⟩ | ⟨hw, rfl⟩
        · exact split2 hw (fun _ => done (op_heap hH hF hk hx) he) (by simp)
        · exact split2 hw (by simp) (fun _ => skip rfl he)
      · rename_i f args hk
        simp only [Option.bind_eq_some_iff] at he
        obtain ⟨p, hp, he⟩ := he
        obtain ⟨c, ho, hc, hca⟩ : ∃ c : Call, o.op = .call c ∧ c.callee = .value f ∧ c.args = args := by
          unfold kindOf at hk
          split at hk <;> first | (cases hk; done) | skip
          · split at hk <;> cases hk
          · split at hk <;> cases hk
          · rename_i hoo
            cases hk
            exact ⟨_, hoo, rfl, rfl⟩
          · split at hk <;> cases hk
        have off : offOf A r i ob o.op = ob := by
          rw [ho]
          obtain ⟨callee, args', tys⟩ := c
          simp only at hc
          subst hc
          rfl
        rcases gated_cases hp hF with ⟨hw, hx⟩ | ⟨hw, rfl⟩
        · refine split2 hw (fun _ => ?_) (by simp)
          rw [← hca] at hx
          refine wp_call hcall hH hF ho hc hx hn (fun a' w' g' v e1 f1 f2 f3 f4 f5 => ?_) (fun w' g' v u e1 f1 f2 f3 f4 => ?_)
          · rw [e1] at he
            exact region_sound hcall hdr l _ _ _ _ a' w' g' w0 g0 he f1 f2 f4 (by rw [f5]; exact hd.mono f3.mono) (ev.trans f3)
          · rw [e1] at he
            exact ⟨_, g', v, u, ⟨f1, f2, hn, hd.mono f3.mono⟩, ev.trans f3, rfl, f4, he⟩
        · refine split2 hw (by simp) (fun _ => ?_)
          rw [← off] at he
          exact skip rfl he
      · rename_i x hk
        cases hg : o.guard with
        | some q => rw [hg] at he; simp at he
        | none =>
          rw [hg] at he
          simp only [Option.isNone_none, cond_true] at he
          have ho : o.op = .panic x := by
            unfold kindOf at hk
            split at hk <;> first | (cases hk; done) | skip
            · split at hk <;> cases hk
            · split at hk <;> cases hk
            · split at hk <;> cases hk
            · rename_i hoo
              cases hk
              exact hoo
          refine split2 (want := true) (by simp [Region.wanted, hg]) (fun _ => ?_) (by simp)
          unfold panOr at he
          split at he
          · rename_i t y hx
            have hr := hF.eval (a := a) x
            rw [hx] at hr
            generalize hu : a.eval x = u at hr
            cases hr with
            | iface hr =>
              unfold Oper.wp
              rename_i y'
              have : (execOp a.eval o).run P w = .halt (.panic (.iface t y')) w := by
                simp [execOp, ho, hu, Instr.panic, goPanic]
              rw [this]
              exact ⟨_, g, .iface t y.copy, _, ⟨hF, hH, hn, hd⟩, ev, rfl, .iface hr.copy, he⟩
          · cases he
      · rename_i f args hk
        cases hg : o.guard with
        | some q => rw [hg] at he; simp at he
        | none =>
          rw [hg] at he
          simp only [Option.isNone_none, cond_true, Option.bind_eq_some_iff] at he
          obtain ⟨d, hde, he⟩ := he
          obtain ⟨c, ho, hc, hca⟩ : ∃ c : Call, o.op = .defer c ∧ c.callee = .value f ∧ c.args = args := by
            unfold kindOf at hk
            split at hk <;> first | (cases hk; done) | skip
            · split at hk <;> cases hk
            · split at hk <;> cases hk
            · split at hk <;> cases hk
            · rename_i hoo
              cases hk
              exact ⟨_, hoo, rfl, rfl⟩
          refine split2 (want := true) (by simp [Region.wanted, hg]) (fun _ => ?_) (by simp)
          unfold deferA at hde
          split at hde
          · rename_i gid first captured hvf
            cases hde
            have hfr := hF.eval (a := a) f
            rw [hvf] at hfr
            generalize huf : a.eval f = uf at hfr
            cases hfr with
            | @func _ _ _ _ fs cs s1 s2 r1 r2 =>
              have hargs : ArgsRep w g (first ++ (callArgs A f fr c.args) ++ captured) (fs ++ c.args.map a.eval ++ cs) :=
                (ArgsRep.append ⟨s1, r1⟩ (args_rep hF A f c.args)).append ⟨s2, r2⟩
              rw [hca] at hargs
              have hrun : (execOp a.eval o).run P w = .ok (.defer { target := .fn (.func gid) cs, args := fs ++ c.args.map a.eval }) w := by
                simp [execOp, ho, resolve, hc, huf, Deferred.ofValue]
              unfold Oper.wp
              rw [hrun]
              have et : (Act.put { a with defers := { target := .fn (.func gid) cs, args := fs ++ c.args.map a.eval } :: a.defers } o.dst undef).tmps = (a.put o.dst undef).tmps := by cases o.dst <;> rfl
              refine region_sound hcall hdr l _ _ _ _ _ w g w0 g0 he ?_ hH ?_ ?_ ev
              · rw [et]; exact hF.put hn .undef
              · rw [et, put_size]; exact hn
              · have hds : (Act.put { a with defers := { target := .fn (.func gid) cs, args := fs ++ c.args.map a.eval } :: a.defers } o.dst undef).defers = { target := .fn (.func gid) cs, args := fs ++ c.args.map a.eval } :: a.defers := put_defers
                rw [hds]
                exact ⟨⟨cs, rfl, by rw [hca]; exact hargs⟩, hd⟩
          · cases hde
end
end Go.Ve

namespace Go.Ve
open Go
def Like (l : List Nat) (fr fr' : List (Nat × AV)) : Prop := ∀ t ∈ l, getV t fr = getV t fr'
section
variable {P : Program} {A : FAnn} {r i : Nat} {fr fr' : List (Nat × AV)} {ob ob' : List (Nat × Nat)} {h : H}
theorem vOf_like {op : Op} (hl : Like (opTmps op) fr fr') {x : Operand} (hx : x ∈ op.operands) : vOf fr x = vOf fr' x := by
  cases x with
  | tmp t => exact hl t (List.mem_filterMap.2 ⟨.tmp t, by simpa using hx, rfl⟩)
  | _ => rfl
def plainOp : Op → Bool
  | .call { callee := .builtin .append, .. } => false
  | _ => true
theorem valOp_like {op : Op} (hp : plainOp op = true) (hl : Like (opTmps op) fr fr') : valOp P A r i fr ob h op = valOp P A r i fr' ob' h op := by
  have v := fun {x} hx => vOf_like (op := op) hl (x := x) hx
  have ml : ∀ {x : Option Operand}, (∀ y, x = some y → y ∈ op.operands) → x.map (vOf fr) = x.map (vOf fr') := by
    intro x hx
    cases x with
    | none => rfl
    | some y => simp [v (hx y rfl)]
  cases op <;> try rfl
  case pick c a b => simp [valOp, v (x := c) (by simp [Op.operands]), v (x := a) (by simp [Op.operands]), v (x := b) (by simp [Op.operands])]
  case build t ps =>
    simp only [valOp]
    congr 1
    exact List.map_congr_left fun p hp => by rw [v (x := p.2) (by simp [Op.operands]; exact ⟨p.1, by simpa using hp⟩)]
  case buildSlice t n ps =>
    simp only [valOp]
    congr 1
    exact List.map_congr_left fun p hp => by rw [v (x := p.2) (by simp [Op.operands]; exact ⟨p.1, by simpa using hp⟩)]
  case load t x => simp [valOp, v (x := x) (by simp [Op.operands])]
  case nilCheck x => simp [valOp, v (x := x) (by simp [Op.operands])]
  case binOp o t x y u => simp [valOp, v (x := x) (by simp [Op.operands]), v (x := y) (by simp [Op.operands])]
  case unOp o t x => simp [valOp, v (x := x) (by simp [Op.operands])]
  case convert s d x => simp [valOp, v (x := x) (by simp [Op.operands])]
  case slice t x lo hi mx =>
    simp only [valOp, v (x := x) (by simp [Op.operands]), ml (x := lo) (fun y hy => by simp [Op.operands, hy]), ml (x := hi) (fun y hy => by simp [Op.operands, hy]), ml (x := mx) (fun y hy => by simp [Op.operands, hy])]
  case fieldAddr t x f => simp [valOp, v (x := x) (by simp [Op.operands])]
  case field t x f => simp [valOp, v (x := x) (by simp [Op.operands])]
  case indexAddr t x y => simp [valOp, v (x := x) (by simp [Op.operands]), v (x := y) (by simp [Op.operands])]
  case index t x y => simp [valOp, v (x := x) (by simp [Op.operands]), v (x := y) (by simp [Op.operands])]
  case lookup t x y ok => simp [valOp, v (x := x) (by simp [Op.operands]), v (x := y) (by simp [Op.operands])]
  case typeAssert x a b ok => simp [valOp, v (x := x) (by simp [Op.operands])]
  case extract x j => simp [valOp, v (x := x) (by simp [Op.operands])]
  case call c =>
    obtain ⟨callee, args, tys⟩ := c
    cases callee with
    | value f => rfl
    | invoke r m => rfl
    | builtin b =>
      have am : args.toList.map (vOf fr) = args.toList.map (vOf fr') := List.map_congr_left fun x hx => v (by simp [Op.operands, Call.operands]; simpa using hx)
      cases b <;> first | rfl | (simp [plainOp] at hp; done) | skip
      case len =>
        simp only [valOp]
        split
        · rename_i x t hx ht
          rw [v (x := x) (by simp [Op.operands, Call.operands]; have : x ∈ args.toList := by rw [hx]; simp
                             simpa using this)]
        · rfl
      case max => simp only [valOp, am]
      case min => simp only [valOp, am]
theorem totOp_like {op : Op} (hl : Like (opTmps op) fr fr') : totOp P fr op = totOp P fr' op := by
  have v := fun {x} hx => vOf_like (op := op) hl (x := x) hx
  cases op <;> try rfl
  case move x => simp [totOp, v (x := x) (by simp [Op.operands])]
  case assign x => simp [totOp, v (x := x) (by simp [Op.operands])]
  case makeInterface t x => simp [totOp, v (x := x) (by simp [Op.operands])]
  case makeFunc f x y =>
    simp only [totOp]
    congr 2
    · exact List.map_congr_left fun z hz => by rw [v (x := z) (by simp [Op.operands]; exact .inl (by simpa using hz))]
    · exact List.map_congr_left fun z hz => by rw [v (x := z) (by simp [Op.operands]; exact .inr (by simpa using hz))]
end
end Go.Ve

namespace Go.Ve
open Go
section
variable {P : Program} {A : FAnn} {r i : Nat} {fr : List (Nat × AV)} {ob : List (Nat × Nat)} {h l : H}
theorem obj_more {id : Nat} {o : AObj} (he : h[id]? = some o) : (h ++ l)[id]? = some o := by
  rw [List.getElem?_append_left (List.getElem?_eq_some_iff.1 he).1, he]
theorem cellsAt_more {a : AV} {p : List AV × Nat} (he : cellsAt h a = some p) : cellsAt (h ++ l) a = some p := by
  unfold cellsAt at he ⊢
  split at he
  · exact he
  · split at he
    · rename_i cells ro hid
      rw [obj_more hid]
      exact he
    · cases he
  · cases he
theorem load_more {t : TypeId} {a v : AV} (he : load P t h a = some v) : load P t (h ++ l) a = some v := by
  unfold load at he ⊢
  split at he
  · rename_i hc
    rw [if_pos hc]
    simp only [ldAgg, Option.bind_eq_some_iff] at he ⊢
    obtain ⟨p, h1, h2⟩ := he
    exact ⟨p, cellsAt_more h1, h2⟩
  · rename_i hc
    rw [if_neg hc]
    split at he
    · rename_i hc2
      rw [if_pos hc2]
      simp only [ldCell, Option.bind_eq_some_iff] at he ⊢
      obtain ⟨p, h1, h2⟩ := he
      exact ⟨p, cellsAt_more h1, h2⟩
    · cases he
theorem bytesStr_more {a v : AV} (he : bytesStr h a = some v) : bytesStr (h ++ l) a = some v := by
  unfold bytesStr at he ⊢
  split at he
  · exact he
  · split at he
    · rename_i hid; simp only [obj_more hid]; exact he
    · cases he
  · cases he
theorem convert_more {s d : TypeId} {a v : AV} (he : convert P s d h a = some v) : convert P s d (h ++ l) a = some v := by
  unfold convert at he ⊢
  split at he <;> first | exact he | cases he | skip
  split at he
  · rename_i hc; rw [if_pos hc]; exact bytesStr_more he
  · cases he
theorem mapEs_more {a : AV} {es : List (AV × AV)} (he : mapEs h a = some es) : mapEs (h ++ l) a = some es := by
  unfold mapEs at he ⊢
  split at he
  · exact he
  · split at he
    · rename_i hid; simp only [obj_more hid]; exact he
    · cases he
  · cases he
theorem lookup_more {t : TypeId} {x ix v : AV} {ok : Bool} (he : lookup P t h x ix ok = some v) : lookup P t (h ++ l) x ix ok = some v := by
  unfold lookup at he ⊢
  split at he
  · split at he
    · unfold lkMap at he ⊢
      split at he
      · rename_i hk
        rw [if_pos hk]
        simp only [Option.bind_eq_some_iff] at he ⊢
        obtain ⟨es, h1, h2⟩ := he
        exact ⟨es, mapEs_more h1, h2⟩
      · cases he
    · cases he
  · cases he
theorem alen_more {t : TypeId} {x v : AV} (he : alen P t h x = some v) : alen P t (h ++ l) x = some v := by
  unfold alen at he ⊢
  split at he <;> first | exact he | cases he | skip
  unfold lnMap at he ⊢
  split at he
  · exact he
  · split at he
    · rename_i hid; simp only [obj_more hid]; exact he
    · cases he
  · cases he
theorem slotOp_more {id : Nat} {cs : List AV} {v : AV} (he : slotOp id cs h = some v) : slotOp id cs (h ++ l) = some v := by
  unfold slotOp at he ⊢
  split at he
  · rename_i hid
    simp only [obj_more hid]
    exact he
  · cases he
theorem valOp_more {op : Op} {v : AV} (hp : plainOp op = true) (he : valOp P A r i fr ob h op = some v) : valOp P A r i fr ob (h ++ l) op = some v := by
  cases op <;> try exact he
  case alloc t =>
    simp only [valOp] at he ⊢
    cases hd : A.drawn with
    | false => rw [hd] at he; cases he
    | true =>
      rw [hd] at he
      simp only [cond_true] at he ⊢
      split at he
      · rename_i n z hn hz
        cases hc : z.cells.all AV.one with
        | false => rw [hc] at he; cases he
        | true => rw [hc] at he; exact slotOp_more he
      · cases he
  case load t x => exact load_more he
  case convert s d x => exact convert_more he
  case lookup t x y ok => exact lookup_more he
  case call c =>
    obtain ⟨callee, args, tys⟩ := c
    cases callee with
    | value f => exact he
    | invoke r m => exact he
    | builtin b =>
      cases b <;> first | exact he | (simp [plainOp] at hp; done) | skip
      case len =>
        simp only [valOp] at he ⊢
        split at he
        · exact alen_more he
        · cases he
end
end Go.Ve
