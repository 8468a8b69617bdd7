/- What the functions of the records' layer come to: 27: a body is read, by the program: in all. -/
import Derived.Test.YtdlnkfghgbddhaaGreatPJS26
set_option linter.all false

open Go Go.Ve Go.Proofs
namespace Go.Proofs.YtdlnkfghgbddhaaGreat
set_option maxRecDepth 100000
set_option linter.all false

theorem rdN_zero {m : Nat} {r : Rd} : (rdN m r).1 = 0 ∨ (rdN m r).2.e = 0 := by
  unfold rdN
  split
  · exact .inl rfl
  · split
    · exact .inl rfl
    · split
      · exact .inl rfl
      · rename_i h _ _
        exact .inr (by show r.e = 0; omega)
theorem changes_run (b : List UInt8) (hb : b.length ≤ 2 ^ 32) : ∃ h' o' N, rec_changes.f (rec_changes.JD N) (BL b) [] = some (match changesOf b with | some l => .ret (CL l o') | none => .pan brkR, h') := by
  obtain ⟨h1, e1, k1, w1⟩ := from_den [] b .no hb
  simp only [List.length_nil] at e1 w1
  obtain ⟨G, hG⟩ : ∃ G, G = h1 ++ [AObj.arr [.ptr 0 0] false] := ⟨_, rfl⟩
  have kG : Keep [] h1 G := hG ▸ Keep.app
  have st : stN 1 (h1 ++ [AObj.arr [.nilPtr] false]) (.ptr h1.length 0) (.agg [.ptr 0 0]) = some (.undef, G) := by
    rw [st_agg (n := 1) get_new (by simp) rfl rfl, set_new, hG]
    rfl
  have gp : G[h1.length]? = some (.arr [.ptr 0 0] false) := hG ▸ get_new
  have l1 := w1.lt
  have hk : (⟨b, 0, 0⟩ : Rd).ok := ⟨Nat.zero_le _, hb, Nat.zero_le _⟩
  obtain ⟨h2, e2, k2, w2⟩ := cntR_den (m := 512) (kG.rd w1 (by simp)) hk (by decide)
  have q := rdN_ok (m := 512) hk
  rw [show (((512 : Nat) : Int)) = 512 from rfl] at e2
  obtain ⟨h3, o3, e3⟩ := changes_loop (rec_changes.fx ((rdN 512 ⟨b, 0, 0⟩).1 + 1 + 4)) 0 h1.length (by omega) b (rdN 512 ⟨b, 0, 0⟩).1 q.2.1 (rdN 512 ⟨b, 0, 0⟩).1 0 ((rdN 512 ⟨b, 0, 0⟩).1 + 1 + 4) [] .cap (rdN 512 ⟨b, 0, 0⟩).2 h2 (by omega) (by omega) rdN_zero rfl rfl (k2.get gp (by simp only [List.mem_singleton]; omega)) w2 q.1
  refine ⟨h3, o3, (rdN 512 ⟨b, 0, 0⟩).1 + 1 + 4, ?_⟩
  rw [rec_changes.f_eq (rec_changes.fx _)]
  simp only [BL_canon, e1, bind_some', retOr_ret, copy_ptr]
  rw [show mkAgg [.nilPtr] [(0, 1, .ptr 0 0)] = some (.agg [.ptr 0 0]) from rfl]
  simp only [bind_some', st, fAddr_ptr, ld_at gp, ptr0, canon_ptr, canon_int, e2, retOr_ret]
  refine e3.trans ?_
  unfold changesOf chRes
  simp only [List.nil_append]
  by_cases hc : (rdE (rdL (rdN 512 ⟨b, 0, 0⟩).1 (rdN 512 ⟨b, 0, 0⟩).2).2).e = 0 ∧ batch (rdL (rdN 512 ⟨b, 0, 0⟩).1 (rdN 512 ⟨b, 0, 0⟩).2).1 = true ∧ bodyB (rdL (rdN 512 ⟨b, 0, 0⟩).1 (rdN 512 ⟨b, 0, 0⟩).2).1 = b
  · simp only [if_pos hc]
  · simp only [if_neg hc]
theorem changes_den (b : List UInt8) (hb : b.length ≤ 2 ^ 32) (h : H) : ∃ o', D n_rec_changes [BL b] h = some (match changesOf b with | some l => .ret (CL l o') | none => .pan brkR, h) := by
  obtain ⟨h', o', N, e⟩ := changes_run b hb
  refine ⟨o', ?_⟩
  cases hc : changesOf b with
  | some l =>
    rw [hc] at e
    exact rec_changes.den N (by simp) e (by simp [AV.pure]) rfl
  | none =>
    rw [hc] at e
    refine den_pan0 (fn := Tryz.f114) (c := rec_changes.c) (h' := h') (by kernel_rfl) Tryz.func114 (by kernel_rfl) (by kernel_rfl) (by kernel_rfl) N (by simp) ?_ rfl rfl
    rw [show (pol.ann n_rec_changes).1 = rec_changes.A by kernel_rfl, show (pol.ann n_rec_changes).2 = rec_changes.an by kernel_rfl, body_real _ _ (by kernel_rfl)]
    exact e
end Go.Proofs.YtdlnkfghgbddhaaGreat
