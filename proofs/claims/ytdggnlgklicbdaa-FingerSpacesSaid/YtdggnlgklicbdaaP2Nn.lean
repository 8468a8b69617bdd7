import Derived.Test.YtdggnlgklicbdaaP2Nm
import Derived.Shelf.Strings.BuilderK
import Derived.Lib.RuneBytes
set_option linter.all false
set_option linter.all false
set_option maxRecDepth 100000
namespace Go.Proofs.Ytdggnlgklicbdaa
open Go.RowKit Go.Ve
def lays167.ρ : Shelf.Ren := ⟨fun x => bif Nat.beq x 166 then 101 else bif Nat.beq x 167 then 100 else bif Nat.beq x 169 then 102 else bif Nat.beq x 240 then 119 else bif Nat.beq x 276 then 127 else x, fun x => bif Nat.beq x 70 then 116 else bif Nat.beq x 72 then 118 else bif Nat.beq x 37 then 62 else bif Nat.beq x 75 then 120 else bif Nat.beq x 80 then 124 else bif Nat.beq x 164 then 147 else bif Nat.beq x 127 then 139 else x, fun x => x⟩
theorem lays167.lays : Lays.n167 Try.prog lays167.ρ where
  mixed := by kernel_rfl
  f167 := by rw [show lays167.ρ.f 167 = 100 from rfl, Try.func100]; kernel_rfl
  f240 := by rw [show lays167.ρ.f 240 = 119 from rfl, Try.func119]; kernel_rfl
  f276 := by rw [show lays167.ρ.f 276 = 127 from rfl, Try.func127]; kernel_rfl
  t0 := by kernel_rfl
  a0 w := by kernel_rfl
  z0 w := by kernel_rfl
  v0 w := by kernel_rfl
  t4 := by kernel_rfl
  a4 w := by kernel_rfl
  z4 w := by kernel_rfl
  v4 w := by kernel_rfl
  t5 := by kernel_rfl
  a5 w := by kernel_rfl
  z5 w := by kernel_rfl
  v5 w := by kernel_rfl
  t9 := by kernel_rfl
  a9 w := by kernel_rfl
  z9 w := by kernel_rfl
  v9 w := by kernel_rfl
  t20 := by kernel_rfl
  a20 w := by kernel_rfl
  z20 w := by kernel_rfl
  v20 w := by kernel_rfl
  t37 := by kernel_rfl
  a37 w := by kernel_rfl
  z37 w := by kernel_rfl
  v37 w := by kernel_rfl
  t70 := by kernel_rfl
  a70 w := by kernel_rfl
  z70 w := by kernel_rfl
  v70 w := by kernel_rfl
  t72 := by kernel_rfl
  a72 w := by kernel_rfl
  z72 w := by kernel_rfl
  v72 w := by kernel_rfl
  t75 := by kernel_rfl
  a75 w := by kernel_rfl
  z75 w := by kernel_rfl
  v75 w := by kernel_rfl
  t164 := by kernel_rfl
  a164 w := by kernel_rfl
  z164 w := by kernel_rfl
  v164 w := by kernel_rfl
abbrev lays166.ρ : Shelf.Ren := lays167.ρ
theorem lays166.lays : Lays.n166 Try.prog lays166.ρ where
  mixed := by kernel_rfl
  f166 := by rw [show lays166.ρ.f 166 = 101 from rfl, Try.func101]; kernel_rfl
  f240 := by rw [show lays166.ρ.f 240 = 119 from rfl, Try.func119]; kernel_rfl
  f276 := by rw [show lays166.ρ.f 276 = 127 from rfl, Try.func127]; kernel_rfl
  t0 := by kernel_rfl
  a0 w := by kernel_rfl
  z0 w := by kernel_rfl
  v0 w := by kernel_rfl
  t3 := by kernel_rfl
  a3 w := by kernel_rfl
  z3 w := by kernel_rfl
  v3 w := by kernel_rfl
  t4 := by kernel_rfl
  a4 w := by kernel_rfl
  z4 w := by kernel_rfl
  v4 w := by kernel_rfl
  t9 := by kernel_rfl
  a9 w := by kernel_rfl
  z9 w := by kernel_rfl
  v9 w := by kernel_rfl
  t20 := by kernel_rfl
  a20 w := by kernel_rfl
  z20 w := by kernel_rfl
  v20 w := by kernel_rfl
  t37 := by kernel_rfl
  a37 w := by kernel_rfl
  z37 w := by kernel_rfl
  v37 w := by kernel_rfl
  t70 := by kernel_rfl
  a70 w := by kernel_rfl
  z70 w := by kernel_rfl
  v70 w := by kernel_rfl
  t72 := by kernel_rfl
  a72 w := by kernel_rfl
  z72 w := by kernel_rfl
  v72 w := by kernel_rfl
  t75 := by kernel_rfl
  a75 w := by kernel_rfl
  z75 w := by kernel_rfl
  v75 w := by kernel_rfl
  t164 := by kernel_rfl
  a164 w := by kernel_rfl
  z164 w := by kernel_rfl
  v164 w := by kernel_rfl
abbrev lays169.ρ : Shelf.Ren := lays167.ρ
theorem lays169.lays : Lays.n169 Try.prog lays169.ρ where
  mixed := by kernel_rfl
  f169 := by rw [show lays169.ρ.f 169 = 102 from rfl, Try.func102]; kernel_rfl
  t0 := by kernel_rfl
  a0 w := by kernel_rfl
  z0 w := by kernel_rfl
  v0 w := by kernel_rfl
  t3 := by kernel_rfl
  a3 w := by kernel_rfl
  z3 w := by kernel_rfl
  v3 w := by kernel_rfl
  t9 := by kernel_rfl
  a9 w := by kernel_rfl
  z9 w := by kernel_rfl
  v9 w := by kernel_rfl
  t37 := by kernel_rfl
  a37 w := by kernel_rfl
  z37 w := by kernel_rfl
  v37 w := by kernel_rfl
  t70 := by kernel_rfl
  a70 w := by kernel_rfl
  z70 w := by kernel_rfl
  v70 w := by kernel_rfl
  t72 := by kernel_rfl
  a72 w := by kernel_rfl
  z72 w := by kernel_rfl
  v72 w := by kernel_rfl
  t127 := by kernel_rfl
  a127 w := by kernel_rfl
  z127 w := by kernel_rfl
  v127 w := by kernel_rfl
theorem extraB : Builder.Extra Try.prog lays167.ρ where
  sizeBuilder := by kernel_rfl
  liesBuilder := by kernel_rfl
  t5 := by kernel_rfl
  a5 w := by kernel_rfl
  z5 w := by kernel_rfl
  v5 w := by kernel_rfl
  infoByte := by kernel_rfl
  cellsByte := by kernel_rfl
  sizeByte := by kernel_rfl
  neB5 := by decide
theorem wb_k (B b : Nat) (bs : List Value) (c : Int) (w : World) (h : Lib.IsBuilderF 118 5 B b bs w) (hlen : bs.length + 1 ≤ 140737488355328) (hBw : B ≤ w.heap.size) :
    Calls Try.prog 100 #[.pointer (some ⟨b, 0, none⟩), .int .u8 c] w fun e w' => e = .returned .nilIface ∧ (Lib.BuilderAtF 118 5 B b (.pointer (some ⟨b, 0, none⟩)) (bs ++ [.int .u8 c]) w' ∧ Below B w w' ∧ Lib.OthersKept 5 (some b) w w') := Any.Builder_WriteByte_k lays167.lays extraB B b bs c w h hlen hBw
theorem ws_k (B b : Nat) (bs : List Value) (s : ByteArray) (w : World) (h : Lib.IsBuilderF 118 5 B b bs w) (hlen : bs.length + s.size ≤ 140737488355328) (hBw : B ≤ w.heap.size) :
    Calls Try.prog 101 #[.pointer (some ⟨b, 0, none⟩), .string s] w fun e w' => e = .returned (.tuple #[.int .i64 s.size, .nilIface]) ∧ (Lib.BuilderAtF 118 5 B b (.pointer (some ⟨b, 0, none⟩)) (bs ++ Lib.strCells s) w' ∧ Below B w w' ∧ Lib.OthersKept 5 (some b) w w') := Any.Builder_WriteString_k lays166.lays extraB B b bs s w h hlen hBw
theorem st_k (B b : Nat) (l : List UInt8) (w : World) (h : Lib.IsBuilderF 118 5 B b (Lib.byteCells l) w) (hBw : B ≤ w.heap.size) :
    Calls Try.prog 102 #[.pointer (some ⟨b, 0, none⟩)] w fun e w' => e = .returned (.string ⟨l.toArray⟩) ∧ Below B w w' := (Any.Builder_String_any_k lays169.lays extraB B b l w h hBw).mono fun e w' h => ⟨h.1, h.2.2.1⟩
def nrm : Bool → List Tx → Tx
  | _, [] => []
  | last, p :: ps => (if last && wordB (p.headD 0) then [32] else []) ++ p ++ nrm (wordB (p.headD 0)) ps
theorem prtF_ne : ∀ (f : Nat) (s : Tx), ∀ p ∈ prtF f s, p ≠ []
  | 0, _, p, h => by simp [prtF] at h
  | f + 1, [], p, h => by simp [prtF] at h
  | f + 1, c :: l, p, h => by
    unfold prtF at h
    split at h
    · rcases List.mem_cons.mp h with rfl | h
      · simp
      · exact prtF_ne f _ p h
    · split at h
      · exact prtF_ne f _ p h
      · rcases List.mem_cons.mp h with rfl | h
        · simp
        · exact prtF_ne f _ p h
theorem prtF_sum : ∀ (f : Nat) (s : Tx), ((prtF f s).map List.length).sum ≤ s.length
  | 0, _ => by simp [prtF]
  | f + 1, [] => by simp [prtF]
  | f + 1, c :: l => by
    unfold prtF
    split
    · have := prtF_sum f (l.dropWhile wordB)
      have h2 : (l.takeWhile wordB).length + (l.dropWhile wordB).length = l.length := by rw [← List.length_append, List.takeWhile_append_dropWhile]
      simp only [List.map_cons, List.sum_cons, List.length_cons]
      omega
    · split
      · have := prtF_sum f l
        simp only [List.length_cons]; omega
      · have := prtF_sum f l
        simp only [List.map_cons, List.sum_cons, List.length_cons, List.length_nil]; omega
theorem al_new (w : World) (o : Obj) : (w.alloc o).heap[w.heap.size]? = some o := by
  show (w.heap.push o)[w.heap.size]? = some o
  exact Array.getElem?_push_size
theorem kept9 {w2 wr w' : World} {z : Nat} (h : ∀ g o, w2.heap[g]? = some (.cells o 9) → z < g → wr.heap[g]? = some (.cells o 9)) (k : Lib.OthersKept 5 (some z) wr w') : ∀ g o, w2.heap[g]? = some (.cells o 9) → z < g → w'.heap[g]? = some (.cells o 9) := by
  intro g o h1 h2
  refine k g _ (h g o h1 h2) ?_ ?_
  · intro e; cases e; exact absurd h2 (Nat.lt_irrefl _)
  · intro c fz e; cases e
set_option maxHeartbeats 1600000 in
theorem norm_calls (B : ByteArray) (w : World) (hs : B.size ≤ 4398046511104) :
    Calls Try.prog 78 #[.string B] w fun e w' => e = .returned (.string ⟨(nrm false (prts B.data.toList)).toArray⟩) ∧ Below w.heap.size w w' := by
  obtain ⟨ps, hps⟩ : ∃ ps, ps = prts B.data.toList := ⟨_, rfl⟩
  have HNE : Aside (∀ p ∈ ps, p ≠ []) := by show ∀ _, _; rw [hps]; exact prtF_ne _ _
  have HSM : Aside ((ps.map List.length).sum ≤ B.size) := by show _ ≤ _; rw [hps]; exact prtF_sum _ _
  have cP := fun wx => parts_calls B wx hs
  rw [← hps] at cP ⊢
  clear hps
  have hN : ps.length ≤ 4398046511104 := by
    have h1 : ∀ l : List Tx, (∀ p ∈ l, p ≠ []) → l.length ≤ (l.map List.length).sum := by
      intro l
      induction l with
      | nil => simp
      | cons p l ih =>
        intro h
        have h1 := ih (fun q hq => h q (List.mem_cons_of_mem _ hq))
        have h2 : 0 < p.length := List.length_pos_iff.mpr (h p (by simp))
        simp only [List.length_cons, List.map_cons, List.sum_cons]; omega
    have := h1 ps HNE.out
    have := HSM.out
    omega
  have hI0 : ∀ w2, Below (w.alloc (.cells #[.pointer none, .slice none 0 0] 118)).heap.size (w.alloc (.cells #[.pointer none, .slice none 0 0] 118)) w2 → Lib.IsBuilderF 118 5 w.heap.size w.heap.size (Lib.byteCells []) w2 := by
    intro w2 hb
    obtain ⟨q1, q2, q3, q4, q5⟩ := (Lib.IsBuilderF.of (Lib.fresh_isBuilder 118 5 w)).elim id (fun h => by
      obtain ⟨q1, q2, q3, q4, q5⟩ := h
      have : (w.alloc (.cells #[.pointer none, .slice none 0 0] 118)).heap[w.heap.size]? = some (.cells #[.pointer none, .slice none 0 0] 118) := al_new _ _
      rw [this] at q3
      cases q3)
    refine .inl ⟨q1, .slice none 0 0, ?_, ⟨rfl, .inl ⟨rfl, rfl⟩⟩, by simp [Value.ownBlock]⟩
    rw [hb.block w.heap.size (by simp)]
    exact al_new _ _
  go_enter Try.func78, Try.ntmps78
  go_wp2_with (go_at_call 98; refine (cP _).mono ?_; rintro e w2 ⟨v, rfl, hown, hb2⟩; obtain ⟨ao, cp, rfl⟩ : ∃ ao cp, v = .slice ao ps.length cp := (by
      rcases hown.2 with ⟨h1, h2⟩ | ⟨g, cap, cur, h1, _⟩
      · exact ⟨none, 0, by rw [h1, h2]⟩
      · exact ⟨_, _, h1⟩))
  have HI0 : Aside (Lib.IsBuilderF 118 5 w.heap.size w.heap.size (Lib.byteCells []) w2) := hI0 w2 hb2
  have hb02 : Below w.heap.size w w2 := by
    have h1 : Below w.heap.size w (w.alloc (.cells #[.pointer none, .slice none 0 0] 118)) := (Below.refl _ w).alloc (Nat.le_refl _) _
    refine h1.trans ⟨hb2.os, hb2.tape, hb2.output, hb2.size, fun k hk => hb2.block k (by simp; omega)⟩
  have HR : Aside (ps ≠ [] → ∃ g cur, ao = some ⟨g, 0, none⟩ ∧ w2.heap[g]? = some (.cells cur 9) ∧ w.heap.size < g ∧ ∀ (k : Nat) p, ps[k]? = some p → cur[k]? = some (strV p)) := by
    intro hne
    rcases hown.2 with ⟨h1, h2⟩ | ⟨g, cap, cur, h1, h3, h4, h5, h6, h7, h8⟩
    · exact absurd (List.eq_nil_of_length_eq_zero h2) hne
    · simp only [Value.slice.injEq] at h1
      refine ⟨g, cur, h1.1, h4, by simp at h3; omega, fun k p hk => ?_⟩
      have : (cur.toList.take (ps.length * 1))[k]? = some (strV p) := by rw [h8, List.getElem?_map, hk]; rfl
      rw [List.getElem?_take, if_pos (by have := (List.getElem?_eq_some_iff.mp hk).1; omega), Array.getElem?_toList] at this
      exact this
  clear hown hb2 hI0 cP
  go_loopg [4, 11] (ps.length) (fun g s4 s11 wr => ∃ (k : Nat) (acc : Tx) (last : Bool), k + g = ps.length ∧ s11 = .int .i64 (k : Int) ∧ s4 = .bool last ∧ Aside (Lib.IsBuilderF 118 5 w.heap.size w.heap.size (Lib.byteCells acc) wr) ∧ Aside (acc ++ nrm last (ps.drop k) = nrm false ps) ∧ Aside (acc.length + ((ps.drop k).map List.length).sum ≤ B.size + k) ∧ Aside (∀ g o, w2.heap[g]? = some (.cells o 9) → w.heap.size < g → wr.heap[g]? = some (.cells o 9)) ∧ Below w.heap.size w wr)
  case atStart => exact ⟨0, [], false, by omega, rfl, rfl, HI0, rfl, by show _ ≤ _; have := HSM.out; simpa using this, fun _ _ h _ => h, hb02⟩
  case round =>
    obtain ⟨k, acc, last, hkg, rfl, rfl, HI, HA, HL, HK, hbx⟩ := hrel
    cases gk with
    | zero =>
      have hkz : ¬ ((k : Int) < (ps.length : Int)) := by omega
      have HE : Aside (acc = nrm false ps) := by
        show _ = _
        rw [← HA.out, List.drop_eq_nil_of_le (by omega)]
        cases last <;> simp [nrm]
      clear hkg
      go_wp2_with (go_at_call 102; refine (st_k _ _ acc _ HI.out hbx.size).mono ?_; rintro e w5 ⟨rfl, hb5⟩)
      go_ret
      exact ⟨by rw [HE.out]; rfl, hbx.trans hb5⟩
    | succ g =>
      have hkz : (k : Int) < (ps.length : Int) := by omega
      have hkN : k < ps.length := by omega
      have HG : Aside (k + (g + 1) = ps.length) := hkg
      clear hkg
      obtain ⟨p, HP⟩ : ∃ p, Aside (ps[k]? = some p) := ⟨_, List.getElem?_eq_getElem hkN⟩
      obtain ⟨pg, cur, rfl, hpg, hwg, hcur⟩ := HR.out (by intro e; rw [e] at hkN; simp at hkN)
      obtain ⟨c, p', rfl⟩ : ∃ c p', p = c :: p' := by
        cases p with
        | nil => exact absurd rfl (HNE.out [] (List.mem_of_getElem? HP.out))
        | cons c p' => exact ⟨c, p', rfl⟩
      obtain ⟨Bp, HB⟩ : ∃ Bp : ByteArray, Aside (Bp = ⟨(c :: p').toArray⟩) := ⟨_, rfl⟩
      have hcell : wr.cell? ⟨pg, k, none⟩ = some (.string Bp) := by
        rw [Lib.cell_of_heap (HK.out pg cur hpg hwg), HB.out]
        exact hcur k _ HP.out
      have h0 : 0 < Bp.size := by rw [HB.out]; exact Nat.succ_pos _
      have HG0 : Aside (Bp[0] = c) := by
        have hB := HB.out
        subst hB
        rfl
      have HSZ : Aside (Bp.size = p'.length + 1) := by show _ = _; rw [HB.out]; rfl
      have HCE : Aside (Lib.strCells Bp = Lib.byteCells (c :: p')) := by show _ = _; rw [HB.out, Lib.strCells_eq]
      have hdrop : ps.drop k = (c :: p') :: ps.drop (k + 1) := by
        obtain ⟨h1, h2⟩ := List.getElem?_eq_some_iff.mp HP.out
        rw [← h2]; exact List.drop_eq_getElem_cons h1
      have HL2 : Aside (acc.length + (p'.length + 1) + ((ps.drop (k + 1)).map List.length).sum ≤ B.size + k) := by
        have h := HL.out
        rw [hdrop] at h
        simp only [List.map_cons, List.sum_cons, List.length_cons] at h
        show _ ≤ _; omega
      have HA2 : Aside (acc ++ ((if last && wordB c then [32] else []) ++ (c :: p') ++ nrm (wordB c) (ps.drop (k + 1))) = nrm false ps) := by
        show _ = _; rw [← HA.out, hdrop]; rfl
      clear hdrop hpg hcur hwg
      have cW := word_calls c
      have cS := fun (a2 : Tx) (wx : World) (ha : a2.length ≤ acc.length + 1) (hI : Lib.IsBuilderF 118 5 w.heap.size w.heap.size (Lib.byteCells a2) wx) (hb : w.heap.size ≤ wx.heap.size) => ws_k w.heap.size w.heap.size (Lib.byteCells a2) Bp wx hI (by have := HL2.out; have := HSZ.out; rw [Lib.byteCells_length]; omega) hb
      have cB := fun (wx : World) (hI : Lib.IsBuilderF 118 5 w.heap.size w.heap.size (Lib.byteCells acc) wx) (hb : w.heap.size ≤ wx.heap.size) => wb_k w.heap.size w.heap.size (Lib.byteCells acc) 32 wx hI (by have := HL2.out; rw [Lib.byteCells_length]; omega) hb
      cases hw : wordB c with
      | false =>
        have hw1 := cW
        rw [hw] at cW HA2
        cases last
        all_goals (
          go_wp2_with (first
            | (go_at_call 99; rw [HG0.out]; refine (cW _).mono ?_; rintro e w4 ⟨rfl, hw4⟩; rw [hw4])
            | (go_at_call 101; refine (cS acc _ (by omega) HI.out hbx.size).mono ?_; rintro e w5 ⟨rfl, h5, b5, k5⟩)))
        all_goals (go_roundg g)
        all_goals first
          | omega
          | (refine ⟨k + 1, acc ++ (c :: p'), false, by have := HG.out; omega, by first | rfl | simp, by first | rfl | simp, by show Lib.IsBuilderF _ _ _ _ _ _; rw [Lib.byteCells_append, ← HCE.out]; exact .inr h5, by show _ = _; rw [← HA2.out]; simp, by have := HL2.out; show _ ≤ _; simp only [List.length_append, List.length_cons]; omega, kept9 HK.out k5, hbx.trans b5⟩)
      | true =>
        rw [hw] at cW HA2
        cases last with
        | false =>
          go_wp2_with (first
            | (go_at_call 99; rw [HG0.out]; refine (cW _).mono ?_; rintro e w4 ⟨rfl, hw4⟩; rw [hw4])
            | (go_at_call 101; refine (cS acc _ (by omega) HI.out hbx.size).mono ?_; rintro e w5 ⟨rfl, h5, b5, k5⟩))
          go_roundg g
          case measure => omega
          case rel =>
            refine ⟨k + 1, acc ++ (c :: p'), true, by have := HG.out; omega, by first | rfl | simp, by first | rfl | simp, by show Lib.IsBuilderF _ _ _ _ _ _; rw [Lib.byteCells_append, ← HCE.out]; exact .inr h5, by show _ = _; rw [← HA2.out]; simp, by have := HL2.out; show _ ≤ _; simp only [List.length_append, List.length_cons]; omega, kept9 HK.out k5, hbx.trans b5⟩
        | true =>
          go_wp2_with (first
            | (go_at_call 99; rw [HG0.out]; refine (cW _).mono ?_; rintro e w4 ⟨rfl, hw4⟩; rw [hw4])
            | (go_at_call 100; refine (cB _ HI.out hbx.size).mono ?_; rintro e w5 ⟨rfl, h5, b5, k5⟩)
            | (go_at_call 101; refine (cS (acc ++ [32]) _ (by simp) (by rw [Lib.byteCells_append]; exact .inr h5) (hbx.trans b5).size).mono ?_; rintro e w6 ⟨rfl, h6, b6, k6⟩))
          go_roundg g
          case measure => omega
          case rel =>
            refine ⟨k + 1, acc ++ [32] ++ (c :: p'), true, by have := HG.out; omega, by first | rfl | simp, by first | rfl | simp, by show Lib.IsBuilderF _ _ _ _ _ _; rw [Lib.byteCells_append, ← HCE.out]; exact .inr h6, by show _ = _; rw [← HA2.out]; simp, by have := HL2.out; show _ ≤ _; simp only [List.length_append, List.length_cons, List.length_nil]; omega, kept9 (kept9 HK.out k5) k6, (hbx.trans b5).trans b6⟩
end Go.Proofs.Ytdggnlgklicbdaa
