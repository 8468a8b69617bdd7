import Derived.Test.YtdggnlgklicbdaaVa5
import Derived.Test.YtdggnlgklicbdaaProg
import Derived.Test.YtdggnlgklicbdaaP2N
set_option linter.all false
open Go Go.Ve Go.Proofs
namespace Go.Proofs.Ytdggnlgklicbdaa
set_option maxRecDepth 100000
noncomputable def base_part_api_Alarm.A : FAnn := { nv := 8, mv := [(1, 0), (4, 1), (5, 0), (6, 0), (8, 0), (8, 1)], ld := [], lst := [], obj := [], q := [], raw := [] }
noncomputable def base_part_api_Alarm.an : Ann := .mk none .nil (.mk none (.mk none .nil (.mk none (.mk none (.mk (some [(1, 0), (4, 255), (5, 255), (8, 0), (9, 0), (10, 0)]) .nil .nil) .nil) .nil)) .nil)
noncomputable abbrev base_part_api_Alarm.c : Code := Try.f64.body.getD .skip
noncomputable def base_part_api_Alarm.J (call : Cl) (n : Nat) : Jn (AEnd × H) := realJ Try.prog base_part_api_Alarm.A call Try.f64 base_part_api_Alarm.an base_part_api_Alarm.c n
abbrev base_part_api_Alarm.F (call : Cl) (n : Nat) (J : Jn (AEnd × H)) : Prop := JFix Try.prog base_part_api_Alarm.A call Try.f64 base_part_api_Alarm.an base_part_api_Alarm.c n J
def base_part_api_Alarm.f (J : Jn (AEnd × H)) (x0 x1 : AV) (h : H) : Option (AEnd × H) := J [] [] ⟨[(0, x0), (1, x1)], [], [], h⟩
def base_part_api_Alarm.l0 (J : Jn (AEnd × H)) (m0 : Nat) (x1 x4 x5 x8 x9 x10 : AV) (h : H) : Option (AEnd × H) := J [1, 0, 1, 0] [m0] ⟨[(1, x1), (4, x4), (5, x5), (8, x8), (9, x9), (10, x10)], [(1, 0), (4, 255), (5, 255), (8, 0), (9, 0), (10, 0)], [], h⟩
theorem base_part_api_Alarm.f_eq {call : Cl} {n : Nat} {J : Jn (AEnd × H)} (hJ : base_part_api_Alarm.F call n J) (x0 x1 : AV) (h : H) : base_part_api_Alarm.f J x0 x1 h =
  (lnSl x0).bind fun v1 =>
  base_part_api_Alarm.l0 J n x1 (.list [] .cap) (.list [] .cap) x0 v1 (.int .i64 0) h := (hJ _ _ _ (by kernel_rfl)).trans (by kernel_rfl)
theorem base_part_api_Alarm.l0_eq {call : Cl} {n : Nat} {J : Jn (AEnd × H)} (hJ : base_part_api_Alarm.F call n J) (m0 : Nat) (x1 x4 x5 x8 x9 x10 : AV) (h : H) : base_part_api_Alarm.l0 J (m0 + 1) x1 x4 x5 x8 x9 x10 h =
  (bin .lss x10 x9).bind fun v2 =>
  condV v2 (
    (ixSlice 6 x8 x10).bind fun v3 =>
    (ldAgg 6 h v3).bind fun v4 =>
    let h5 : H := h ++ [.arr [.int .i64 0, .int .i64 0, .str [], .str [], .int .i64 0, .str []] false]
    (stN 6 h5 (.ptr h.length 0) (AV.copy v4)).bind fun p6 =>
    (ldAgg 6 p6.2 (.ptr h.length 0)).bind fun v7 =>
    (callVal call p6.2 x1 [AV.canon x10, AV.canon v7]).bind fun p8 => retOr p8.1 (fun r9p => some (AEnd.pan r9p, p8.2)) fun r9 =>
    condV r9 (
      (ldAgg 6 p8.2 (.ptr h.length 0)).bind fun v10 =>
      (mkRows 6 [.int .i64 0, .int .i64 0, .str [], .str [], .int .i64 0, .str []] 1 [(0, v10)]).bind fun v11 =>
      (apSlice 6 72 false true p8.2 x4 v11).bind fun v12 =>
      (bin .add x10 (.int .i64 1)).bind fun v13 =>
      base_part_api_Alarm.l0 J m0 x1 v12 x5 x8 x9 v13 p8.2) (
      (ldAgg 6 p8.2 (.ptr h.length 0)).bind fun v14 =>
      (mkRows 6 [.int .i64 0, .int .i64 0, .str [], .str [], .int .i64 0, .str []] 1 [(0, v14)]).bind fun v15 =>
      (apSlice 6 72 false true p8.2 x5 v15).bind fun v16 =>
      (bin .add x10 (.int .i64 1)).bind fun v17 =>
      base_part_api_Alarm.l0 J m0 x1 x4 v16 x8 x9 v17 p8.2)) (
    some (AEnd.ret (.tuple [x4, x5]), h)) := (hJ _ _ _ (by kernel_rfl)).trans (by kernel_rfl)
noncomputable def base_Match_c1.A : FAnn := { nv := 10, mv := [(2, 2), (3, 0)], ld := [], lst := [], obj := [], q := [50], raw := [] }
noncomputable def base_Match_c1.an : Ann := .nil
noncomputable abbrev base_Match_c1.c : Code := Try.f65.body.getD .skip
noncomputable def base_Match_c1.J (call : Cl) (n : Nat) : Jn (AEnd × H) := realJ Try.prog base_Match_c1.A call Try.f65 base_Match_c1.an base_Match_c1.c n
abbrev base_Match_c1.F (call : Cl) (n : Nat) (J : Jn (AEnd × H)) : Prop := JFix Try.prog base_Match_c1.A call Try.f65 base_Match_c1.an base_Match_c1.c n J
def base_Match_c1.f (J : Jn (AEnd × H)) (x0 x1 x2 x3 x4 : AV) (h : H) : Option (AEnd × H) := J [] [] ⟨[(0, x0), (1, x1), (2, x2), (3, x3), (4, x4)], [], [], h⟩
theorem base_Match_c1.f_eq {call : Cl} {n : Nat} {J : Jn (AEnd × H)} (hJ : base_Match_c1.F call n J) (x0 x1 x2 x3 x4 : AV) (h : H) : base_Match_c1.f J x0 x1 x2 x3 x4 h =
  (bx h (AV.copy x1)).bind fun p1 =>
  (ldCell p1.2 x2).bind fun v2 =>
  (ldCell p1.2 x3).bind fun v3 =>
  (ixSlice 1 v3 x0).bind fun v4 =>
  (ldCell p1.2 v4).bind fun v5 =>
  (lkMap .int (.int .i64 0) p1.2 v2 v5 false).bind fun v6 =>
  (bin .add v6 (.int .i64 1)).bind fun v7 =>
  (upMap .int p1.2 v2 v5 v7).bind fun p8 =>
  (ldCell p8.2 x4).bind fun v9 =>
  (ldCell p8.2 x3).bind fun v10 =>
  (ixSlice 1 v10 x0).bind fun v11 =>
  (ldCell p8.2 v11).bind fun v12 =>
  (call n_base_search [AV.canon v9, AV.canon v12] p8.2).bind fun p13 => retOr p13.1 (fun _ => none) fun r14 =>
  (exTuple 0 r14).bind fun v15 =>
  (exTuple 1 r14).bind fun v16 =>
  some (AEnd.ret (AV.copy v16), p13.2) := (hJ _ _ _ (by kernel_rfl)).trans (by kernel_rfl)
noncomputable def base_Match_c2.A : FAnn := { nv := 5, mv := [], ld := [], lst := [], obj := [], q := [], raw := [] }
noncomputable def base_Match_c2.an : Ann := .nil
noncomputable abbrev base_Match_c2.c : Code := Try.f66.body.getD .skip
noncomputable def base_Match_c2.J (call : Cl) (n : Nat) : Jn (AEnd × H) := realJ Try.prog base_Match_c2.A call Try.f66 base_Match_c2.an base_Match_c2.c n
abbrev base_Match_c2.F (call : Cl) (n : Nat) (J : Jn (AEnd × H)) : Prop := JFix Try.prog base_Match_c2.A call Try.f66 base_Match_c2.an base_Match_c2.c n J
def base_Match_c2.f (J : Jn (AEnd × H)) (x0 x1 x2 : AV) (h : H) : Option (AEnd × H) := J [] [] ⟨[(0, x0), (1, x1), (2, x2)], [], [], h⟩
theorem base_Match_c2.f_eq {call : Cl} {n : Nat} {J : Jn (AEnd × H)} (hJ : base_Match_c2.F call n J) (x0 x1 x2 : AV) (h : H) : base_Match_c2.f J x0 x1 x2 h =
  (bx h (AV.copy x1)).bind fun p1 =>
  (ldCell p1.2 x2).bind fun v2 =>
  (fAddr 0 p1.1).bind fun v3 =>
  (ldCell p1.2 v3).bind fun v4 =>
  (lkMap .int (.int .i64 0) p1.2 v2 v4 false).bind fun v5 =>
  (bin .gtr v5 (.int .i64 0)).bind fun v6 =>
  some (AEnd.ret (AV.copy v6), p1.2) := (hJ _ _ _ (by kernel_rfl)).trans (by kernel_rfl)
noncomputable def slices_Sort_uint64_uint64.A : FAnn := { nv := 3, mv := [(1, 0), (1, 2)], ld := [], lst := [], obj := [], q := [], raw := [] }
noncomputable def slices_Sort_uint64_uint64.an : Ann := .nil
noncomputable abbrev slices_Sort_uint64_uint64.c : Code := Try.f67.body.getD .skip
noncomputable def slices_Sort_uint64_uint64.J (call : Cl) (n : Nat) : Jn (AEnd × H) := realJ Try.prog slices_Sort_uint64_uint64.A call Try.f67 slices_Sort_uint64_uint64.an slices_Sort_uint64_uint64.c n
abbrev slices_Sort_uint64_uint64.F (call : Cl) (n : Nat) (J : Jn (AEnd × H)) : Prop := JFix Try.prog slices_Sort_uint64_uint64.A call Try.f67 slices_Sort_uint64_uint64.an slices_Sort_uint64_uint64.c n J
def slices_Sort_uint64_uint64.f (J : Jn (AEnd × H)) (x0 : AV) (h : H) : Option (AEnd × H) := J [] [] ⟨[(0, x0)], [], [], h⟩
theorem slices_Sort_uint64_uint64.f_eq {call : Cl} {n : Nat} {J : Jn (AEnd × H)} (hJ : slices_Sort_uint64_uint64.F call n J) (x0 : AV) (h : H) : slices_Sort_uint64_uint64.f J x0 h =
  (lnSl x0).bind fun v1 =>
  (cvInt .u64 v1).bind fun v2 =>
  (call n_bits_Len [AV.canon v2] h).bind fun p3 => retOr p3.1 (fun r4p => some (AEnd.pan r4p, p3.2)) fun r4 =>
  (call n_slices_pdqsortOrdered_uint64 [AV.canon x0, AV.canon (.int .i64 0), AV.canon v1, AV.canon r4] p3.2).bind fun p5 => retOr p5.1 (fun r6p => some (AEnd.pan r6p, p5.2)) fun r6 =>
  some (AEnd.ret (.tuple []), p5.2) := (hJ _ _ _ (by kernel_rfl)).trans (by kernel_rfl)
noncomputable def slices_BinarySearchFunc_api_Mark_api_Mark_uint64.A : FAnn := { nv := 12, mv := [(6, 0), (7, 0), (8, 2), (8, 5), (8, 6), (8, 7), (8, 10)], ld := [], lst := [], obj := [], q := [], raw := [] }
noncomputable def slices_BinarySearchFunc_api_Mark_api_Mark_uint64.an : Ann := .mk none .nil (.mk none .nil (.mk none .nil (.mk none (.mk none (.mk none (.mk (some [(0, 0), (1, 0), (2, 0), (8, 0), (9, 0), (10, 0)]) .nil .nil) .nil) .nil) .nil)))
noncomputable abbrev slices_BinarySearchFunc_api_Mark_api_Mark_uint64.c : Code := Try.f69.body.getD .skip
noncomputable def slices_BinarySearchFunc_api_Mark_api_Mark_uint64.J (call : Cl) (n : Nat) : Jn (AEnd × H) := realJ Try.prog slices_BinarySearchFunc_api_Mark_api_Mark_uint64.A call Try.f69 slices_BinarySearchFunc_api_Mark_api_Mark_uint64.an slices_BinarySearchFunc_api_Mark_api_Mark_uint64.c n
abbrev slices_BinarySearchFunc_api_Mark_api_Mark_uint64.F (call : Cl) (n : Nat) (J : Jn (AEnd × H)) : Prop := JFix Try.prog slices_BinarySearchFunc_api_Mark_api_Mark_uint64.A call Try.f69 slices_BinarySearchFunc_api_Mark_api_Mark_uint64.an slices_BinarySearchFunc_api_Mark_api_Mark_uint64.c n J
def slices_BinarySearchFunc_api_Mark_api_Mark_uint64.f (J : Jn (AEnd × H)) (x0 x1 x2 : AV) (h : H) : Option (AEnd × H) := J [] [] ⟨[(0, x0), (1, x1), (2, x2)], [], [], h⟩
def slices_BinarySearchFunc_api_Mark_api_Mark_uint64.l0 (J : Jn (AEnd × H)) (m0 : Nat) (x0 x1 x2 x8 x9 x10 : AV) (h : H) : Option (AEnd × H) := J [1, 1, 1, 0, 0] [m0] ⟨[(0, x0), (1, x1), (2, x2), (8, x8), (9, x9), (10, x10)], [(0, 0), (1, 0), (2, 0), (8, 0), (9, 0), (10, 0)], [], h⟩
theorem slices_BinarySearchFunc_api_Mark_api_Mark_uint64.f_eq {call : Cl} {n : Nat} {J : Jn (AEnd × H)} (hJ : slices_BinarySearchFunc_api_Mark_api_Mark_uint64.F call n J) (x0 x1 x2 : AV) (h : H) : slices_BinarySearchFunc_api_Mark_api_Mark_uint64.f J x0 x1 x2 h =
  (lnSl x0).bind fun v1 =>
  slices_BinarySearchFunc_api_Mark_api_Mark_uint64.l0 J n x0 x1 x2 v1 (.int .i64 0) v1 h := (hJ _ _ _ (by kernel_rfl)).trans (by kernel_rfl)
theorem slices_BinarySearchFunc_api_Mark_api_Mark_uint64.l0_eq {call : Cl} {n : Nat} {J : Jn (AEnd × H)} (hJ : slices_BinarySearchFunc_api_Mark_api_Mark_uint64.F call n J) (m0 : Nat) (x0 x1 x2 x8 x9 x10 : AV) (h : H) : slices_BinarySearchFunc_api_Mark_api_Mark_uint64.l0 J (m0 + 1) x0 x1 x2 x8 x9 x10 h =
  (bin .lss x9 x10).bind fun v2 =>
  condV v2 (
    (bin .add x9 x10).bind fun v3 =>
    (cvInt .u64 v3).bind fun v4 =>
    (bin .shr v4 (.int .u64 1)).bind fun v5 =>
    (cvInt .i64 v5).bind fun v6 =>
    (ixSlice 2 x0 v6).bind fun v7 =>
    (ldAgg 2 h v7).bind fun v8 =>
    (callVal call h x2 [AV.canon v8, AV.canon x1]).bind fun p9 => retOr p9.1 (fun r10p => some (AEnd.pan r10p, p9.2)) fun r10 =>
    (bin .lss r10 (.int .i64 0)).bind fun v11 =>
    condV v11 (
      (bin .add v6 (.int .i64 1)).bind fun v12 =>
      slices_BinarySearchFunc_api_Mark_api_Mark_uint64.l0 J m0 x0 x1 x2 x8 v12 x10 p9.2) (
      slices_BinarySearchFunc_api_Mark_api_Mark_uint64.l0 J m0 x0 x1 x2 x8 x9 v6 p9.2)) (
    (bin .lss x9 x8).bind fun v13 =>
    condV v13 (
      (ixSlice 2 x0 x9).bind fun v14 =>
      (ldAgg 2 h v14).bind fun v15 =>
      (callVal call h x2 [AV.canon v15, AV.canon x1]).bind fun p16 => retOr p16.1 (fun r17p => some (AEnd.pan r17p, p16.2)) fun r17 =>
      (bin .eql r17 (.int .i64 0)).bind fun v18 =>
      some (AEnd.ret (.tuple [(AV.copy x9), (AV.copy v18)]), p16.2)) (
      some (AEnd.ret (.tuple [(AV.copy x9), (AV.copy (.bool false))]), h))) := (hJ _ _ _ (by kernel_rfl)).trans (by kernel_rfl)
noncomputable def base_search_c1.A : FAnn := { nv := 4, mv := [(1, 2)], ld := [], lst := [], obj := [], q := [], raw := [] }
noncomputable def base_search_c1.an : Ann := .nil
noncomputable abbrev base_search_c1.c : Code := Try.f70.body.getD .skip
noncomputable def base_search_c1.J (call : Cl) (n : Nat) : Jn (AEnd × H) := realJ Try.prog base_search_c1.A call Try.f70 base_search_c1.an base_search_c1.c n
abbrev base_search_c1.F (call : Cl) (n : Nat) (J : Jn (AEnd × H)) : Prop := JFix Try.prog base_search_c1.A call Try.f70 base_search_c1.an base_search_c1.c n J
def base_search_c1.f (J : Jn (AEnd × H)) (x0 x1 : AV) (h : H) : Option (AEnd × H) := J [] [] ⟨[(0, x0), (1, x1)], [], [], h⟩
theorem base_search_c1.f_eq {call : Cl} {n : Nat} {J : Jn (AEnd × H)} (hJ : base_search_c1.F call n J) (x0 x1 : AV) (h : H) : base_search_c1.f J x0 x1 h =
  (bx h (AV.copy x0)).bind fun p1 =>
  (fAddr 0 p1.1).bind fun v2 =>
  (ldCell p1.2 v2).bind fun v3 =>
  (call n_cmp_Compare_uint64 [AV.canon v3, AV.canon x1] p1.2).bind fun p4 => retOr p4.1 (fun r5p => some (AEnd.pan r5p, p4.2)) fun r5 =>
  some (AEnd.ret r5, p4.2) := (hJ _ _ _ (by kernel_rfl)).trans (by kernel_rfl)
noncomputable def cmp_Compare_uint64.A : FAnn := { nv := 7, mv := [(3, 0), (4, 0), (7, 0), (11, 0), (11, 1)], ld := [], lst := [], obj := [], q := [], raw := [] }
noncomputable def cmp_Compare_uint64.an : Ann := .nil
noncomputable abbrev cmp_Compare_uint64.c : Code := Try.f71.body.getD .skip
noncomputable def cmp_Compare_uint64.J (call : Cl) (n : Nat) : Jn (AEnd × H) := realJ Try.prog cmp_Compare_uint64.A call Try.f71 cmp_Compare_uint64.an cmp_Compare_uint64.c n
abbrev cmp_Compare_uint64.F (call : Cl) (n : Nat) (J : Jn (AEnd × H)) : Prop := JFix Try.prog cmp_Compare_uint64.A call Try.f71 cmp_Compare_uint64.an cmp_Compare_uint64.c n J
def cmp_Compare_uint64.f (J : Jn (AEnd × H)) (x0 x1 : AV) (h : H) : Option (AEnd × H) := J [] [] ⟨[(0, x0), (1, x1)], [], [], h⟩
theorem cmp_Compare_uint64.f_eq {call : Cl} {n : Nat} {J : Jn (AEnd × H)} (hJ : cmp_Compare_uint64.F call n J) (x0 x1 : AV) (h : H) : cmp_Compare_uint64.f J x0 x1 h =
  (call n_cmp_isNaN_uint64 [AV.canon x0] h).bind fun p1 => retOr p1.1 (fun r2p => some (AEnd.pan r2p, p1.2)) fun r2 =>
  (call n_cmp_isNaN_uint64 [AV.canon x1] p1.2).bind fun p3 => retOr p3.1 (fun r4p => some (AEnd.pan r4p, p3.2)) fun r4 =>
  condV r2 (
    condV r4 (
      some (AEnd.ret (.int .i64 0), p3.2)) (
      some (AEnd.ret (.int .i64 (-1)), p3.2))) (
    condV r4 (
      some (AEnd.ret (.int .i64 1), p3.2)) (
      (bin .lss x0 x1).bind fun v5 =>
      condV v5 (
        some (AEnd.ret (.int .i64 (-1)), p3.2)) (
        (bin .gtr x0 x1).bind fun v6 =>
        condV v6 (
          some (AEnd.ret (.int .i64 1), p3.2)) (
          some (AEnd.ret (.int .i64 0), p3.2))))) := (hJ _ _ _ (by kernel_rfl)).trans (by kernel_rfl)
noncomputable def result_note.A : FAnn := { nv := 4, mv := [(2, 4), (2, 5)], ld := [], lst := [], obj := [], q := [], raw := [] }
noncomputable def result_note.an : Ann := .nil
noncomputable abbrev result_note.c : Code := Try.f72.body.getD .skip
noncomputable def result_note.J (call : Cl) (n : Nat) : Jn (AEnd × H) := realJ Try.prog result_note.A call Try.f72 result_note.an result_note.c n
abbrev result_note.F (call : Cl) (n : Nat) (J : Jn (AEnd × H)) : Prop := JFix Try.prog result_note.A call Try.f72 result_note.an result_note.c n J
def result_note.f (J : Jn (AEnd × H)) (x0 : AV) (h : H) : Option (AEnd × H) := J [] [] ⟨[(0, x0)], [], [], h⟩
theorem result_note.f_eq {call : Cl} {n : Nat} {J : Jn (AEnd × H)} (hJ : result_note.F call n J) (x0 : AV) (h : H) : result_note.f J x0 h =
  (lnStr x0).bind fun v1 =>
  (bin .leq v1 (.int .i64 64)).bind fun v2 =>
  condV v2 (
    (call n_strings_ContainsFunc [AV.canon x0, AV.canon (.func (.func n_result_note_c1) [] [])] h).bind fun p3 => retOr p3.1 (fun r4p => some (AEnd.pan r4p, p3.2)) fun r4 =>
    (unOp .not r4).bind fun v5 =>
    some (AEnd.ret (AV.copy v5), p3.2)) (
    some (AEnd.ret (AV.copy (.bool false)), h)) := (hJ _ _ _ (by kernel_rfl)).trans (by kernel_rfl)
noncomputable def ref17_Expr.A : FAnn := { nv := 4, mv := [(3, 0), (6, 4)], ld := [], lst := [], obj := [], q := [], raw := [] }
noncomputable def ref17_Expr.an : Ann := .mk none .nil (.mk none (.mk none .nil (.mk none (.mk none (.mk (some [(0, 0), (3, 0)]) .nil (.mk none (.mk none (.mk none .nil (.mk (some [(0, 0), (3, 0), (19, 0)]) .nil .nil)) .nil) .nil)) .nil) .nil)) .nil)
noncomputable abbrev ref17_Expr.c : Code := Try.f73.body.getD .skip
noncomputable def ref17_Expr.J (call : Cl) (n : Nat) : Jn (AEnd × H) := realJ Try.prog ref17_Expr.A call Try.f73 ref17_Expr.an ref17_Expr.c n
abbrev ref17_Expr.F (call : Cl) (n : Nat) (J : Jn (AEnd × H)) : Prop := JFix Try.prog ref17_Expr.A call Try.f73 ref17_Expr.an ref17_Expr.c n J
def ref17_Expr.f (J : Jn (AEnd × H)) (x0 : AV) (h : H) : Option (AEnd × H) := J [] [] ⟨[(0, x0)], [], [], h⟩
def ref17_Expr.l0 (J : Jn (AEnd × H)) (m0 : Nat) (x0 x3 : AV) (h : H) : Option (AEnd × H) := J [1, 0, 1, 0] [m0] ⟨[(0, x0), (3, x3)], [(0, 0), (3, 0)], [], h⟩
def ref17_Expr.j0 (J : Jn (AEnd × H)) (m0 : Nat) (x0 x3 x19 : AV) (h : H) : Option (AEnd × H) := J [1, 0, 1, 0, 0, 1, 0, 0, 1] [m0] ⟨[(0, x0), (3, x3), (19, x19)], [(0, 0), (3, 0), (19, 0)], [], h⟩
theorem ref17_Expr.f_eq {call : Cl} {n : Nat} {J : Jn (AEnd × H)} (hJ : ref17_Expr.F call n J) (x0 : AV) (h : H) : ref17_Expr.f J x0 h =
  ref17_Expr.l0 J n x0 (.int .i64 0) h := (hJ _ _ _ (by kernel_rfl)).trans (by kernel_rfl)
theorem ref17_Expr.l0_eq {call : Cl} {n : Nat} {J : Jn (AEnd × H)} (hJ : ref17_Expr.F call n J) (m0 : Nat) (x0 x3 : AV) (h : H) : ref17_Expr.l0 J (m0 + 1) x0 x3 h =
  (lnStr x0).bind fun v1 =>
  (bin .lss x3 v1).bind fun v2 =>
  condV v2 (
    (ixStr x0 x3).bind fun v3 =>
    (bin .lss v3 (.int .u8 32)).bind fun v4 =>
    condV v4 (
      ref17_Expr.j0 J m0 x0 x3 (.bool true) h) (
      (ixStr x0 x3).bind fun v5 =>
      (bin .gtr v5 (.int .u8 126)).bind fun v6 =>
      ref17_Expr.j0 J m0 x0 x3 v6 h)) (
    (lnStr x0).bind fun v7 =>
    (bin .geq v7 (.int .i64 1)).bind fun v8 =>
    condV v8 (
      (lnStr x0).bind fun v9 =>
      (bin .leq v9 (.int .i64 128)).bind fun v10 =>
      some (AEnd.ret (AV.copy v10), h)) (
      some (AEnd.ret (AV.copy (.bool false)), h))) := (hJ _ _ _ (by kernel_rfl)).trans (by kernel_rfl)
theorem ref17_Expr.j0_eq {call : Cl} {n : Nat} {J : Jn (AEnd × H)} (hJ : ref17_Expr.F call n J) (m0 : Nat) (x0 x3 x19 : AV) (h : H) : ref17_Expr.j0 J m0 x0 x3 x19 h =
  condV x19 (
    some (AEnd.ret (.bool false), h)) (
    (bin .add x3 (.int .i64 1)).bind fun v11 =>
    ref17_Expr.l0 J m0 x0 v11 h) := (hJ _ _ _ (by kernel_rfl)).trans (by kernel_rfl)
noncomputable def ref02_Text.A : FAnn := { nv := 2, mv := [(1, 4)], ld := [], lst := [], obj := [], q := [], raw := [] }
noncomputable def ref02_Text.an : Ann := .nil
noncomputable abbrev ref02_Text.c : Code := Try.f74.body.getD .skip
noncomputable def ref02_Text.J (call : Cl) (n : Nat) : Jn (AEnd × H) := realJ Try.prog ref02_Text.A call Try.f74 ref02_Text.an ref02_Text.c n
abbrev ref02_Text.F (call : Cl) (n : Nat) (J : Jn (AEnd × H)) : Prop := JFix Try.prog ref02_Text.A call Try.f74 ref02_Text.an ref02_Text.c n J
def ref02_Text.f (J : Jn (AEnd × H)) (x0 : AV) (h : H) : Option (AEnd × H) := J [] [] ⟨[(0, x0)], [], [], h⟩
theorem ref02_Text.f_eq {call : Cl} {n : Nat} {J : Jn (AEnd × H)} (hJ : ref02_Text.F call n J) (x0 : AV) (h : H) : ref02_Text.f J x0 h =
  (lnStr x0).bind fun v1 =>
  (cvInt .u64 v1).bind fun v2 =>
  (call n_warrantorref01_Put [AV.canon v2] h).bind fun p3 => retOr p3.1 (fun r4p => some (AEnd.pan r4p, p3.2)) fun r4 =>
  (strBytes x0).bind fun v5 =>
  (apSlice 1 1 true true p3.2 r4 v5).bind fun v6 =>
  some (AEnd.ret v6, p3.2) := (hJ _ _ _ (by kernel_rfl)).trans (by kernel_rfl)
noncomputable def cur_New.A : FAnn := { nv := 1, mv := [], ld := [], lst := [], obj := [], q := [], raw := [] }
noncomputable def cur_New.an : Ann := .nil
noncomputable abbrev cur_New.c : Code := Try.f75.body.getD .skip
noncomputable def cur_New.J (call : Cl) (n : Nat) : Jn (AEnd × H) := realJ Try.prog cur_New.A call Try.f75 cur_New.an cur_New.c n
abbrev cur_New.F (call : Cl) (n : Nat) (J : Jn (AEnd × H)) : Prop := JFix Try.prog cur_New.A call Try.f75 cur_New.an cur_New.c n J
def cur_New.f (J : Jn (AEnd × H)) (h : H) : Option (AEnd × H) := J [] [] ⟨[], [], [], h⟩
theorem cur_New.f_eq {call : Cl} {n : Nat} {J : Jn (AEnd × H)} (hJ : cur_New.F call n J) (h : H) : cur_New.f J  h =
  (mkAgg [.list [] .cap] []).bind fun v1 =>
  (bx h v1).bind fun p2 =>
  some (AEnd.ret (AV.copy p2.1), p2.2) := (hJ _ _ _ (by kernel_rfl)).trans (by kernel_rfl)
noncomputable def cur_Pen_U.A : FAnn := { nv := 4, mv := [(0, 0), (0, 1)], ld := [], lst := [], obj := [], q := [], raw := [] }
noncomputable def cur_Pen_U.an : Ann := .nil
noncomputable abbrev cur_Pen_U.c : Code := Try.f76.body.getD .skip
noncomputable def cur_Pen_U.J (call : Cl) (n : Nat) : Jn (AEnd × H) := realJ Try.prog cur_Pen_U.A call Try.f76 cur_Pen_U.an cur_Pen_U.c n
abbrev cur_Pen_U.F (call : Cl) (n : Nat) (J : Jn (AEnd × H)) : Prop := JFix Try.prog cur_Pen_U.A call Try.f76 cur_Pen_U.an cur_Pen_U.c n J
def cur_Pen_U.f (J : Jn (AEnd × H)) (x0 x1 : AV) (h : H) : Option (AEnd × H) := J [] [] ⟨[(0, x0), (1, x1)], [], [], h⟩
theorem cur_Pen_U.f_eq {call : Cl} {n : Nat} {J : Jn (AEnd × H)} (hJ : cur_Pen_U.F call n J) (x0 x1 : AV) (h : H) : cur_Pen_U.f J x0 x1 h =
  (call n_leb_Put [AV.canon x1] h).bind fun p1 => retOr p1.1 (fun r2p => some (AEnd.pan r2p, p1.2)) fun r2 =>
  (call n_cur_Pen_put [AV.canon x0, AV.canon r2] p1.2).bind fun p3 => retOr p3.1 (fun r4p => some (AEnd.pan r4p, p3.2)) fun r4 =>
  some (AEnd.ret (.tuple []), p3.2) := (hJ _ _ _ (by kernel_rfl)).trans (by kernel_rfl)
noncomputable def cur_Pen_Text.A : FAnn := { nv := 4, mv := [(1, 0), (1, 1)], ld := [], lst := [], obj := [], q := [], raw := [] }
noncomputable def cur_Pen_Text.an : Ann := .nil
noncomputable abbrev cur_Pen_Text.c : Code := Try.f77.body.getD .skip
noncomputable def cur_Pen_Text.J (call : Cl) (n : Nat) : Jn (AEnd × H) := realJ Try.prog cur_Pen_Text.A call Try.f77 cur_Pen_Text.an cur_Pen_Text.c n
abbrev cur_Pen_Text.F (call : Cl) (n : Nat) (J : Jn (AEnd × H)) : Prop := JFix Try.prog cur_Pen_Text.A call Try.f77 cur_Pen_Text.an cur_Pen_Text.c n J
def cur_Pen_Text.f (J : Jn (AEnd × H)) (x0 x1 : AV) (h : H) : Option (AEnd × H) := J [] [] ⟨[(0, x0), (1, x1)], [], [], h⟩
theorem cur_Pen_Text.f_eq {call : Cl} {n : Nat} {J : Jn (AEnd × H)} (hJ : cur_Pen_Text.F call n J) (x0 x1 : AV) (h : H) : cur_Pen_Text.f J x0 x1 h =
  (lnStr x1).bind fun v1 =>
  (cvInt .u64 v1).bind fun v2 =>
  (call n_cur_Pen_U [AV.canon x0, AV.canon v2] h).bind fun p3 => retOr p3.1 (fun r4p => some (AEnd.pan r4p, p3.2)) fun r4 =>
  (strBytes x1).bind fun v5 =>
  (call n_cur_Pen_put [AV.canon x0, AV.canon v5] p3.2).bind fun p6 => retOr p6.1 (fun r7p => some (AEnd.pan r7p, p6.2)) fun r7 =>
  some (AEnd.ret (.tuple []), p6.2) := (hJ _ _ _ (by kernel_rfl)).trans (by kernel_rfl)
noncomputable def cur_Pen_Bytes.A : FAnn := { nv := 2, mv := [(3, 0)], ld := [], lst := [], obj := [], q := [], raw := [] }
noncomputable def cur_Pen_Bytes.an : Ann := .nil
noncomputable abbrev cur_Pen_Bytes.c : Code := Try.f79.body.getD .skip
noncomputable def cur_Pen_Bytes.J (call : Cl) (n : Nat) : Jn (AEnd × H) := realJ Try.prog cur_Pen_Bytes.A call Try.f79 cur_Pen_Bytes.an cur_Pen_Bytes.c n
abbrev cur_Pen_Bytes.F (call : Cl) (n : Nat) (J : Jn (AEnd × H)) : Prop := JFix Try.prog cur_Pen_Bytes.A call Try.f79 cur_Pen_Bytes.an cur_Pen_Bytes.c n J
def cur_Pen_Bytes.f (J : Jn (AEnd × H)) (x0 : AV) (h : H) : Option (AEnd × H) := J [] [] ⟨[(0, x0)], [], [], h⟩
theorem cur_Pen_Bytes.f_eq {call : Cl} {n : Nat} {J : Jn (AEnd × H)} (hJ : cur_Pen_Bytes.F call n J) (x0 : AV) (h : H) : cur_Pen_Bytes.f J x0 h =
  (eqv false (aeq Try.prog 20 101 x0 .nilPtr)).bind fun v1 =>
  condV v1 (
    some (AEnd.ret (.list [] .cap), h)) (
    (nilOk x0).bind fun v2 =>
    (fAddr 0 v2).bind fun v3 =>
    (ldCell h v3).bind fun v4 =>
    (call n_slices_Clone_byte_byte [AV.canon v4] h).bind fun p5 => retOr p5.1 (fun r6p => some (AEnd.pan r6p, p5.2)) fun r6 =>
    some (AEnd.ret r6, p5.2)) := (hJ _ _ _ (by kernel_rfl)).trans (by kernel_rfl)
noncomputable def slices_insertionSortCmpFunc_int.A : FAnn := { nv := 10, mv := [(2, 0), (5, 0)], ld := [], lst := [], obj := [], q := [], raw := [] }
noncomputable def slices_insertionSortCmpFunc_int.an : Ann := .mk none .nil (.mk none (.mk none (.mk (some [(0, 0), (1, 0), (2, 0), (3, 0), (8, 0)]) .nil (.mk none (.mk none (.mk none .nil (.mk none (.mk none (.mk (some [(0, 0), (1, 0), (2, 0), (3, 0), (8, 0), (9, 0)]) .nil (.mk (some [(0, 0), (1, 0), (2, 0), (3, 0), (8, 0), (9, 0)]) .nil .nil)) .nil) .nil)) .nil) .nil)) .nil) .nil)
noncomputable abbrev slices_insertionSortCmpFunc_int.c : Code := Try.f80.body.getD .skip
noncomputable def slices_insertionSortCmpFunc_int.J (call : Cl) (n : Nat) : Jn (AEnd × H) := realJ Try.prog slices_insertionSortCmpFunc_int.A call Try.f80 slices_insertionSortCmpFunc_int.an slices_insertionSortCmpFunc_int.c n
abbrev slices_insertionSortCmpFunc_int.F (call : Cl) (n : Nat) (J : Jn (AEnd × H)) : Prop := JFix Try.prog slices_insertionSortCmpFunc_int.A call Try.f80 slices_insertionSortCmpFunc_int.an slices_insertionSortCmpFunc_int.c n J
def slices_insertionSortCmpFunc_int.f (J : Jn (AEnd × H)) (x0 x1 x2 x3 : AV) (h : H) : Option (AEnd × H) := J [] [] ⟨[(0, x0), (1, x1), (2, x2), (3, x3)], [], [], h⟩
def slices_insertionSortCmpFunc_int.l0 (J : Jn (AEnd × H)) (m0 : Nat) (x0 x1 x2 x3 x8 : AV) (h : H) : Option (AEnd × H) := J [1, 0] [m0] ⟨[(0, x0), (1, x1), (2, x2), (3, x3), (8, x8)], [(0, 0), (1, 0), (2, 0), (3, 0), (8, 0)], [], h⟩
def slices_insertionSortCmpFunc_int.l1 (J : Jn (AEnd × H)) (m0 m1 : Nat) (x0 x1 x2 x3 x8 x9 : AV) (h : H) : Option (AEnd × H) := J [1, 0, 0, 1, 0, 0, 1, 0] [m0, m1] ⟨[(0, x0), (1, x1), (2, x2), (3, x3), (8, x8), (9, x9)], [(0, 0), (1, 0), (2, 0), (3, 0), (8, 0), (9, 0)], [], h⟩
def slices_insertionSortCmpFunc_int.j0 (J : Jn (AEnd × H)) (m0 m1 : Nat) (x0 x1 x2 x3 x8 x9 : AV) (h : H) : Option (AEnd × H) := J [1, 0, 0, 1, 0, 0, 1, 0, 0, 1] [m0, m1] ⟨[(0, x0), (1, x1), (2, x2), (3, x3), (8, x8), (9, x9)], [(0, 0), (1, 0), (2, 0), (3, 0), (8, 0), (9, 0)], [], h⟩
theorem slices_insertionSortCmpFunc_int.f_eq {call : Cl} {n : Nat} {J : Jn (AEnd × H)} (hJ : slices_insertionSortCmpFunc_int.F call n J) (x0 x1 x2 x3 : AV) (h : H) : slices_insertionSortCmpFunc_int.f J x0 x1 x2 x3 h =
  (bin .add x1 (.int .i64 1)).bind fun v1 =>
  slices_insertionSortCmpFunc_int.l0 J n x0 x1 x2 x3 v1 h := (hJ _ _ _ (by kernel_rfl)).trans (by kernel_rfl)
theorem slices_insertionSortCmpFunc_int.l0_eq {call : Cl} {n : Nat} {J : Jn (AEnd × H)} (hJ : slices_insertionSortCmpFunc_int.F call n J) (m0 : Nat) (x0 x1 x2 x3 x8 : AV) (h : H) : slices_insertionSortCmpFunc_int.l0 J (m0 + 1) x0 x1 x2 x3 x8 h =
  (bin .lss x8 x2).bind fun v2 =>
  condV v2 (
    slices_insertionSortCmpFunc_int.l1 J m0 n x0 x1 x2 x3 x8 x8 h) (
    some (AEnd.ret (.tuple []), h)) := (hJ _ _ _ (by kernel_rfl)).trans (by kernel_rfl)
theorem slices_insertionSortCmpFunc_int.l1_eq {call : Cl} {n : Nat} {J : Jn (AEnd × H)} (hJ : slices_insertionSortCmpFunc_int.F call n J) (m0 m1 : Nat) (x0 x1 x2 x3 x8 x9 : AV) (h : H) : slices_insertionSortCmpFunc_int.l1 J m0 (m1 + 1) x0 x1 x2 x3 x8 x9 h =
  (bin .gtr x9 x1).bind fun v3 =>
  condV v3 (
    (ixSlice 1 x0 x9).bind fun v4 =>
    (ldCell h v4).bind fun v5 =>
    (bin .sub x9 (.int .i64 1)).bind fun v6 =>
    (ixSlice 1 x0 v6).bind fun v7 =>
    (ldCell h v7).bind fun v8 =>
    (callVal call h x3 [AV.canon v5, AV.canon v8]).bind fun p9 => retOr p9.1 (fun _ => none) fun r10 =>
    (bin .lss r10 (.int .i64 0)).bind fun v11 =>
    condV v11 (
      slices_insertionSortCmpFunc_int.j0 J m0 m1 x0 x1 x2 x3 x8 x9 p9.2) (
      (bin .add x8 (.int .i64 1)).bind fun v12 =>
      slices_insertionSortCmpFunc_int.l0 J m0 x0 x1 x2 x3 v12 p9.2)) (
    (bin .add x8 (.int .i64 1)).bind fun v13 =>
    slices_insertionSortCmpFunc_int.l0 J m0 x0 x1 x2 x3 v13 h) := (hJ _ _ _ (by kernel_rfl)).trans (by kernel_rfl)
theorem slices_insertionSortCmpFunc_int.j0_eq {call : Cl} {n : Nat} {J : Jn (AEnd × H)} (hJ : slices_insertionSortCmpFunc_int.F call n J) (m0 m1 : Nat) (x0 x1 x2 x3 x8 x9 : AV) (h : H) : slices_insertionSortCmpFunc_int.j0 J m0 m1 x0 x1 x2 x3 x8 x9 h =
  (bin .sub x9 (.int .i64 1)).bind fun v14 =>
  (bin .sub x9 (.int .i64 1)).bind fun v15 =>
  (ixSlice 1 x0 v15).bind fun v16 =>
  (ldCell h v16).bind fun v17 =>
  (ixSlice 1 x0 x9).bind fun v18 =>
  (ldCell h v18).bind fun v19 =>
  (ixSlice 1 x0 x9).bind fun v20 =>
  (stN 1 h v20 (AV.copy v17)).bind fun p21 =>
  (ixSlice 1 x0 v14).bind fun v22 =>
  (stN 1 p21.2 v22 (AV.copy v19)).bind fun p23 =>
  (bin .sub x9 (.int .i64 1)).bind fun v24 =>
  slices_insertionSortCmpFunc_int.l1 J m0 m1 x0 x1 x2 x3 x8 v24 p23.2 := (hJ _ _ _ (by kernel_rfl)).trans (by kernel_rfl)
noncomputable def slices_symMergeCmpFunc_int.A : FAnn := { nv := 25, mv := [(1, 0), (2, 0), (6, 0), (7, 0), (8, 0), (10, 0), (13, 0), (18, 0), (19, 0), (20, 0), (22, 0), (36, 0), (37, 0), (38, 0), (40, 2), (42, 1), (42, 2), (44, 0), (44, 1), (44, 2), (44, 3), (44, 4)], ld := [], lst := [], obj := [], q := [], raw := [] }
noncomputable def slices_symMergeCmpFunc_int.an : Ann := .mk none (.mk none .nil (.mk none (.mk none .nil (.mk none .nil (.mk none (.mk none (.mk none (.mk (some [(0, 0), (1, 0), (4, 0), (10, 0), (11, 0)]) .nil .nil) .nil) .nil) (.mk none (.mk none .nil (.mk none (.mk none (.mk (some [(0, 0), (10, 0), (13, 0)]) .nil .nil) .nil) .nil)) .nil)))) .nil)) (.mk none (.mk none .nil (.mk none (.mk none .nil (.mk none .nil (.mk none (.mk none (.mk none (.mk (some [(0, 0), (2, 0), (4, 0), (14, 0), (15, 0)]) .nil .nil) .nil) .nil) (.mk none (.mk none .nil (.mk none (.mk none (.mk (some [(0, 0), (14, 0), (17, 0)]) .nil .nil) .nil) .nil)) .nil)))) .nil)) (.mk none .nil (.mk none .nil (.mk none .nil (.mk none .nil (.mk (some [(0, 0), (1, 0), (2, 0), (3, 0), (4, 0), (18, 255), (19, 0), (20, 0), (21, 0)]) .nil (.mk none (.mk none (.mk none (.mk (some [(0, 0), (1, 0), (2, 0), (3, 0), (4, 0), (18, 255), (19, 0), (20, 0), (21, 0), (22, 0)]) .nil .nil) .nil) .nil) (.mk none .nil (.mk none (.mk none .nil (.mk (some [(0, 0), (1, 0), (2, 0), (3, 0), (4, 0), (18, 255), (20, 0), (24, 0), (185, 0)]) .nil .nil)) (.mk (some [(0, 0), (1, 0), (3, 0), (4, 0), (18, 255), (20, 0), (24, 0)]) (.mk none .nil (.mk (some [(0, 0), (1, 0), (3, 0), (4, 0), (18, 255), (20, 0), (24, 0), (199, 0)]) .nil .nil)) (.mk (some [(0, 0), (3, 0), (4, 0), (18, 255), (24, 0)]) .nil (.mk (some [(0, 0), (3, 0), (4, 0), (18, 255), (24, 0), (213, 0)]) .nil .nil))))))))))))
noncomputable abbrev slices_symMergeCmpFunc_int.c : Code := Try.f81.body.getD .skip
noncomputable def slices_symMergeCmpFunc_int.J (call : Cl) (n : Nat) : Jn (AEnd × H) := realJ Try.prog slices_symMergeCmpFunc_int.A call Try.f81 slices_symMergeCmpFunc_int.an slices_symMergeCmpFunc_int.c n
abbrev slices_symMergeCmpFunc_int.F (call : Cl) (n : Nat) (J : Jn (AEnd × H)) : Prop := JFix Try.prog slices_symMergeCmpFunc_int.A call Try.f81 slices_symMergeCmpFunc_int.an slices_symMergeCmpFunc_int.c n J
def slices_symMergeCmpFunc_int.f (J : Jn (AEnd × H)) (x0 x1 x2 x3 x4 : AV) (h : H) : Option (AEnd × H) := J [] [] ⟨[(0, x0), (1, x1), (2, x2), (3, x3), (4, x4)], [], [], h⟩
def slices_symMergeCmpFunc_int.l0 (J : Jn (AEnd × H)) (m0 : Nat) (x0 x1 x4 x10 x11 : AV) (h : H) : Option (AEnd × H) := J [0, 1, 0, 1, 1, 0, 0] [m0] ⟨[(0, x0), (1, x1), (4, x4), (10, x10), (11, x11)], [(0, 0), (1, 0), (4, 0), (10, 0), (11, 0)], [], h⟩
def slices_symMergeCmpFunc_int.l1 (J : Jn (AEnd × H)) (m0 : Nat) (x0 x2 x4 x14 x15 : AV) (h : H) : Option (AEnd × H) := J [1, 0, 1, 0, 1, 1, 0, 0] [m0] ⟨[(0, x0), (2, x2), (4, x4), (14, x14), (15, x15)], [(0, 0), (2, 0), (4, 0), (14, 0), (15, 0)], [], h⟩
def slices_symMergeCmpFunc_int.j0 (J : Jn (AEnd × H)) (x0 x1 x2 x3 x4 x18 x19 x20 x21 : AV) (h : H) : Option (AEnd × H) := J [1, 1, 1, 1, 1, 1] [] ⟨[(0, x0), (1, x1), (2, x2), (3, x3), (4, x4), (18, x18), (19, x19), (20, x20), (21, x21)], [(0, 0), (1, 0), (2, 0), (3, 0), (4, 0), (18, 255), (19, 0), (20, 0), (21, 0)], [], h⟩
def slices_symMergeCmpFunc_int.l2 (J : Jn (AEnd × H)) (m0 : Nat) (x0 x10 x13 : AV) (h : H) : Option (AEnd × H) := J [0, 1, 0, 1, 1, 1, 0, 1, 0] [m0] ⟨[(0, x0), (10, x10), (13, x13)], [(0, 0), (10, 0), (13, 0)], [], h⟩
def slices_symMergeCmpFunc_int.l3 (J : Jn (AEnd × H)) (m0 : Nat) (x0 x14 x17 : AV) (h : H) : Option (AEnd × H) := J [1, 0, 1, 0, 1, 1, 1, 0, 1, 0] [m0] ⟨[(0, x0), (14, x14), (17, x17)], [(0, 0), (14, 0), (17, 0)], [], h⟩
def slices_symMergeCmpFunc_int.l4 (J : Jn (AEnd × H)) (m0 : Nat) (x0 x1 x2 x3 x4 x18 x19 x20 x21 x22 : AV) (h : H) : Option (AEnd × H) := J [1, 1, 1, 1, 1, 1, 1, 0, 0] [m0] ⟨[(0, x0), (1, x1), (2, x2), (3, x3), (4, x4), (18, x18), (19, x19), (20, x20), (21, x21), (22, x22)], [(0, 0), (1, 0), (2, 0), (3, 0), (4, 0), (18, 255), (19, 0), (20, 0), (21, 0), (22, 0)], [], h⟩
def slices_symMergeCmpFunc_int.j2 (J : Jn (AEnd × H)) (x0 x1 x2 x3 x4 x18 x20 x24 x185 : AV) (h : H) : Option (AEnd × H) := J [1, 1, 1, 1, 1, 1, 1, 1, 1, 0, 1] [] ⟨[(0, x0), (1, x1), (2, x2), (3, x3), (4, x4), (18, x18), (20, x20), (24, x24), (185, x185)], [(0, 0), (1, 0), (2, 0), (3, 0), (4, 0), (18, 255), (20, 0), (24, 0), (185, 0)], [], h⟩
def slices_symMergeCmpFunc_int.j1 (J : Jn (AEnd × H)) (x0 x1 x3 x4 x18 x20 x24 : AV) (h : H) : Option (AEnd × H) := J [1, 1, 1, 1, 1, 1, 1, 1, 1, 1] [] ⟨[(0, x0), (1, x1), (3, x3), (4, x4), (18, x18), (20, x20), (24, x24)], [(0, 0), (1, 0), (3, 0), (4, 0), (18, 255), (20, 0), (24, 0)], [], h⟩
def slices_symMergeCmpFunc_int.j4 (J : Jn (AEnd × H)) (x0 x1 x3 x4 x18 x20 x24 x199 : AV) (h : H) : Option (AEnd × H) := J [1, 1, 1, 1, 1, 1, 1, 1, 1, 1, 0, 1] [] ⟨[(0, x0), (1, x1), (3, x3), (4, x4), (18, x18), (20, x20), (24, x24), (199, x199)], [(0, 0), (1, 0), (3, 0), (4, 0), (18, 255), (20, 0), (24, 0), (199, 0)], [], h⟩
def slices_symMergeCmpFunc_int.j3 (J : Jn (AEnd × H)) (x0 x3 x4 x18 x24 : AV) (h : H) : Option (AEnd × H) := J [1, 1, 1, 1, 1, 1, 1, 1, 1, 1, 1] [] ⟨[(0, x0), (3, x3), (4, x4), (18, x18), (24, x24)], [(0, 0), (3, 0), (4, 0), (18, 255), (24, 0)], [], h⟩
def slices_symMergeCmpFunc_int.j5 (J : Jn (AEnd × H)) (x0 x3 x4 x18 x24 x213 : AV) (h : H) : Option (AEnd × H) := J [1, 1, 1, 1, 1, 1, 1, 1, 1, 1, 1, 1] [] ⟨[(0, x0), (3, x3), (4, x4), (18, x18), (24, x24), (213, x213)], [(0, 0), (3, 0), (4, 0), (18, 255), (24, 0), (213, 0)], [], h⟩
theorem slices_symMergeCmpFunc_int.f_eq {call : Cl} {n : Nat} {J : Jn (AEnd × H)} (hJ : slices_symMergeCmpFunc_int.F call n J) (x0 x1 x2 x3 x4 : AV) (h : H) : slices_symMergeCmpFunc_int.f J x0 x1 x2 x3 x4 h =
  (bin .sub x2 x1).bind fun v1 =>
  (bin .eql v1 (.int .i64 1)).bind fun v2 =>
  condV v2 (
    slices_symMergeCmpFunc_int.l0 J n x0 x1 x4 x2 x3 h) (
    (bin .sub x3 x2).bind fun v3 =>
    (bin .eql v3 (.int .i64 1)).bind fun v4 =>
    condV v4 (
      slices_symMergeCmpFunc_int.l1 J n x0 x2 x4 x1 x2 h) (
      (bin .add x1 x3).bind fun v5 =>
      (cvInt .u64 v5).bind fun v6 =>
      (bin .shr v6 (.int .u64 1)).bind fun v7 =>
      (cvInt .i64 v7).bind fun v8 =>
      (bin .add v8 x2).bind fun v9 =>
      (bin .gtr x2 v8).bind fun v10 =>
      condV v10 (
        (bin .sub v9 x3).bind fun v11 =>
        slices_symMergeCmpFunc_int.j0 J  x0 x1 x2 x3 x4 v8 v9 v11 v8 h) (
        slices_symMergeCmpFunc_int.j0 J  x0 x1 x2 x3 x4 v8 v9 x1 x2 h))) := (hJ _ _ _ (by kernel_rfl)).trans (by kernel_rfl)
theorem slices_symMergeCmpFunc_int.l0_eq {call : Cl} {n : Nat} {J : Jn (AEnd × H)} (hJ : slices_symMergeCmpFunc_int.F call n J) (m0 : Nat) (x0 x1 x4 x10 x11 : AV) (h : H) : slices_symMergeCmpFunc_int.l0 J (m0 + 1) x0 x1 x4 x10 x11 h =
  (bin .lss x10 x11).bind fun v12 =>
  condV v12 (
    (bin .add x10 x11).bind fun v13 =>
    (cvInt .u64 v13).bind fun v14 =>
    (bin .shr v14 (.int .u64 1)).bind fun v15 =>
    (cvInt .i64 v15).bind fun v16 =>
    (ixSlice 1 x0 v16).bind fun v17 =>
    (ldCell h v17).bind fun v18 =>
    (ixSlice 1 x0 x1).bind fun v19 =>
    (ldCell h v19).bind fun v20 =>
    (callVal call h x4 [AV.canon v18, AV.canon v20]).bind fun p21 => retOr p21.1 (fun _ => none) fun r22 =>
    (bin .lss r22 (.int .i64 0)).bind fun v23 =>
    condV v23 (
      (bin .add v16 (.int .i64 1)).bind fun v24 =>
      slices_symMergeCmpFunc_int.l0 J m0 x0 x1 x4 v24 x11 p21.2) (
      slices_symMergeCmpFunc_int.l0 J m0 x0 x1 x4 x10 v16 p21.2)) (
    slices_symMergeCmpFunc_int.l2 J n x0 x10 x1 h) := (hJ _ _ _ (by kernel_rfl)).trans (by kernel_rfl)
theorem slices_symMergeCmpFunc_int.l1_eq {call : Cl} {n : Nat} {J : Jn (AEnd × H)} (hJ : slices_symMergeCmpFunc_int.F call n J) (m0 : Nat) (x0 x2 x4 x14 x15 : AV) (h : H) : slices_symMergeCmpFunc_int.l1 J (m0 + 1) x0 x2 x4 x14 x15 h =
  (bin .lss x14 x15).bind fun v25 =>
  condV v25 (
    (bin .add x14 x15).bind fun v26 =>
    (cvInt .u64 v26).bind fun v27 =>
    (bin .shr v27 (.int .u64 1)).bind fun v28 =>
    (cvInt .i64 v28).bind fun v29 =>
    (ixSlice 1 x0 x2).bind fun v30 =>
    (ldCell h v30).bind fun v31 =>
    (ixSlice 1 x0 v29).bind fun v32 =>
    (ldCell h v32).bind fun v33 =>
    (callVal call h x4 [AV.canon v31, AV.canon v33]).bind fun p34 => retOr p34.1 (fun _ => none) fun r35 =>
    (bin .lss r35 (.int .i64 0)).bind fun v36 =>
    (unOp .not v36).bind fun v37 =>
    condV v37 (
      (bin .add v29 (.int .i64 1)).bind fun v38 =>
      slices_symMergeCmpFunc_int.l1 J m0 x0 x2 x4 v38 x15 p34.2) (
      slices_symMergeCmpFunc_int.l1 J m0 x0 x2 x4 x14 v29 p34.2)) (
    slices_symMergeCmpFunc_int.l3 J n x0 x14 x2 h) := (hJ _ _ _ (by kernel_rfl)).trans (by kernel_rfl)
theorem slices_symMergeCmpFunc_int.j0_eq {call : Cl} {n : Nat} {J : Jn (AEnd × H)} (hJ : slices_symMergeCmpFunc_int.F call n J) (x0 x1 x2 x3 x4 x18 x19 x20 x21 : AV) (h : H) : slices_symMergeCmpFunc_int.j0 J  x0 x1 x2 x3 x4 x18 x19 x20 x21 h =
  (bin .sub x19 (.int .i64 1)).bind fun v39 =>
  slices_symMergeCmpFunc_int.l4 J n x0 x1 x2 x3 x4 x18 x19 x20 x21 v39 h := (hJ _ _ _ (by kernel_rfl)).trans (by kernel_rfl)
theorem slices_symMergeCmpFunc_int.l2_eq {call : Cl} {n : Nat} {J : Jn (AEnd × H)} (hJ : slices_symMergeCmpFunc_int.F call n J) (m0 : Nat) (x0 x10 x13 : AV) (h : H) : slices_symMergeCmpFunc_int.l2 J (m0 + 1) x0 x10 x13 h =
  (bin .sub x10 (.int .i64 1)).bind fun v40 =>
  (bin .lss x13 v40).bind fun v41 =>
  condV v41 (
    (bin .add x13 (.int .i64 1)).bind fun v42 =>
    (bin .add x13 (.int .i64 1)).bind fun v43 =>
    (ixSlice 1 x0 v43).bind fun v44 =>
    (ldCell h v44).bind fun v45 =>
    (ixSlice 1 x0 x13).bind fun v46 =>
    (ldCell h v46).bind fun v47 =>
    (ixSlice 1 x0 x13).bind fun v48 =>
    (stN 1 h v48 (AV.copy v45)).bind fun p49 =>
    (ixSlice 1 x0 v42).bind fun v50 =>
    (stN 1 p49.2 v50 (AV.copy v47)).bind fun p51 =>
    (bin .add x13 (.int .i64 1)).bind fun v52 =>
    slices_symMergeCmpFunc_int.l2 J m0 x0 x10 v52 p51.2) (
    some (AEnd.ret (.tuple []), h)) := (hJ _ _ _ (by kernel_rfl)).trans (by kernel_rfl)
theorem slices_symMergeCmpFunc_int.l3_eq {call : Cl} {n : Nat} {J : Jn (AEnd × H)} (hJ : slices_symMergeCmpFunc_int.F call n J) (m0 : Nat) (x0 x14 x17 : AV) (h : H) : slices_symMergeCmpFunc_int.l3 J (m0 + 1) x0 x14 x17 h =
  (bin .gtr x17 x14).bind fun v53 =>
  condV v53 (
    (bin .sub x17 (.int .i64 1)).bind fun v54 =>
    (bin .sub x17 (.int .i64 1)).bind fun v55 =>
    (ixSlice 1 x0 v55).bind fun v56 =>
    (ldCell h v56).bind fun v57 =>
    (ixSlice 1 x0 x17).bind fun v58 =>
    (ldCell h v58).bind fun v59 =>
    (ixSlice 1 x0 x17).bind fun v60 =>
    (stN 1 h v60 (AV.copy v57)).bind fun p61 =>
    (ixSlice 1 x0 v54).bind fun v62 =>
    (stN 1 p61.2 v62 (AV.copy v59)).bind fun p63 =>
    (bin .sub x17 (.int .i64 1)).bind fun v64 =>
    slices_symMergeCmpFunc_int.l3 J m0 x0 x14 v64 p63.2) (
    some (AEnd.ret (.tuple []), h)) := (hJ _ _ _ (by kernel_rfl)).trans (by kernel_rfl)
theorem slices_symMergeCmpFunc_int.l4_eq {call : Cl} {n : Nat} {J : Jn (AEnd × H)} (hJ : slices_symMergeCmpFunc_int.F call n J) (m0 : Nat) (x0 x1 x2 x3 x4 x18 x19 x20 x21 x22 : AV) (h : H) : slices_symMergeCmpFunc_int.l4 J (m0 + 1) x0 x1 x2 x3 x4 x18 x19 x20 x21 x22 h =
  (bin .lss x20 x21).bind fun v65 =>
  condV v65 (
    (bin .add x20 x21).bind fun v66 =>
    (cvInt .u64 v66).bind fun v67 =>
    (bin .shr v67 (.int .u64 1)).bind fun v68 =>
    (cvInt .i64 v68).bind fun v69 =>
    (bin .sub x22 v69).bind fun v70 =>
    (ixSlice 1 x0 v70).bind fun v71 =>
    (ldCell h v71).bind fun v72 =>
    (ixSlice 1 x0 v69).bind fun v73 =>
    (ldCell h v73).bind fun v74 =>
    (callVal call h x4 [AV.canon v72, AV.canon v74]).bind fun p75 => retOr p75.1 (fun _ => none) fun r76 =>
    (bin .lss r76 (.int .i64 0)).bind fun v77 =>
    (unOp .not v77).bind fun v78 =>
    condV v78 (
      (bin .add v69 (.int .i64 1)).bind fun v79 =>
      slices_symMergeCmpFunc_int.l4 J m0 x0 x1 x2 x3 x4 x18 x19 v79 x21 x22 p75.2) (
      slices_symMergeCmpFunc_int.l4 J m0 x0 x1 x2 x3 x4 x18 x19 x20 v69 x22 p75.2)) (
    (bin .sub x19 x20).bind fun v80 =>
    (bin .lss x20 x2).bind fun v81 =>
    condV v81 (
      (bin .lss x2 v80).bind fun v82 =>
      slices_symMergeCmpFunc_int.j2 J  x0 x1 x2 x3 x4 x18 x20 v80 v82 h) (
      slices_symMergeCmpFunc_int.j2 J  x0 x1 x2 x3 x4 x18 x20 v80 (.bool false) h)) := (hJ _ _ _ (by kernel_rfl)).trans (by kernel_rfl)
theorem slices_symMergeCmpFunc_int.j2_eq {call : Cl} {n : Nat} {J : Jn (AEnd × H)} (hJ : slices_symMergeCmpFunc_int.F call n J) (x0 x1 x2 x3 x4 x18 x20 x24 x185 : AV) (h : H) : slices_symMergeCmpFunc_int.j2 J  x0 x1 x2 x3 x4 x18 x20 x24 x185 h =
  condV x185 (
    (call n_slices_rotateCmpFunc_int [AV.canon x0, AV.canon x20, AV.canon x2, AV.canon x24, AV.canon x4] h).bind fun p83 => retOr p83.1 (fun r84p => some (AEnd.pan r84p, p83.2)) fun r84 =>
    slices_symMergeCmpFunc_int.j1 J  x0 x1 x3 x4 x18 x20 x24 p83.2) (
    slices_symMergeCmpFunc_int.j1 J  x0 x1 x3 x4 x18 x20 x24 h) := (hJ _ _ _ (by kernel_rfl)).trans (by kernel_rfl)
theorem slices_symMergeCmpFunc_int.j1_eq {call : Cl} {n : Nat} {J : Jn (AEnd × H)} (hJ : slices_symMergeCmpFunc_int.F call n J) (x0 x1 x3 x4 x18 x20 x24 : AV) (h : H) : slices_symMergeCmpFunc_int.j1 J  x0 x1 x3 x4 x18 x20 x24 h =
  (bin .lss x1 x20).bind fun v85 =>
  condV v85 (
    (bin .lss x20 x18).bind fun v86 =>
    slices_symMergeCmpFunc_int.j4 J  x0 x1 x3 x4 x18 x20 x24 v86 h) (
    slices_symMergeCmpFunc_int.j4 J  x0 x1 x3 x4 x18 x20 x24 (.bool false) h) := (hJ _ _ _ (by kernel_rfl)).trans (by kernel_rfl)
theorem slices_symMergeCmpFunc_int.j4_eq {call : Cl} {n : Nat} {J : Jn (AEnd × H)} (hJ : slices_symMergeCmpFunc_int.F call n J) (x0 x1 x3 x4 x18 x20 x24 x199 : AV) (h : H) : slices_symMergeCmpFunc_int.j4 J  x0 x1 x3 x4 x18 x20 x24 x199 h =
  condV x199 (
    (call n_slices_symMergeCmpFunc_int [AV.canon x0, AV.canon x1, AV.canon x20, AV.canon x18, AV.canon x4] h).bind fun p87 => retOr p87.1 (fun r88p => some (AEnd.pan r88p, p87.2)) fun r88 =>
    slices_symMergeCmpFunc_int.j3 J  x0 x3 x4 x18 x24 p87.2) (
    slices_symMergeCmpFunc_int.j3 J  x0 x3 x4 x18 x24 h) := (hJ _ _ _ (by kernel_rfl)).trans (by kernel_rfl)
theorem slices_symMergeCmpFunc_int.j3_eq {call : Cl} {n : Nat} {J : Jn (AEnd × H)} (hJ : slices_symMergeCmpFunc_int.F call n J) (x0 x3 x4 x18 x24 : AV) (h : H) : slices_symMergeCmpFunc_int.j3 J  x0 x3 x4 x18 x24 h =
  (bin .lss x18 x24).bind fun v89 =>
  condV v89 (
    (bin .lss x24 x3).bind fun v90 =>
    slices_symMergeCmpFunc_int.j5 J  x0 x3 x4 x18 x24 v90 h) (
    slices_symMergeCmpFunc_int.j5 J  x0 x3 x4 x18 x24 (.bool false) h) := (hJ _ _ _ (by kernel_rfl)).trans (by kernel_rfl)
theorem slices_symMergeCmpFunc_int.j5_eq {call : Cl} {n : Nat} {J : Jn (AEnd × H)} (hJ : slices_symMergeCmpFunc_int.F call n J) (x0 x3 x4 x18 x24 x213 : AV) (h : H) : slices_symMergeCmpFunc_int.j5 J  x0 x3 x4 x18 x24 x213 h =
  condV x213 (
    (call n_slices_symMergeCmpFunc_int [AV.canon x0, AV.canon x18, AV.canon x24, AV.canon x3, AV.canon x4] h).bind fun p91 => retOr p91.1 (fun r92p => some (AEnd.pan r92p, p91.2)) fun r92 =>
    some (AEnd.ret (.tuple []), p91.2)) (
    some (AEnd.ret (.tuple []), h)) := (hJ _ _ _ (by kernel_rfl)).trans (by kernel_rfl)
noncomputable def alarm_compares_c1.A : FAnn := { nv := 4, mv := [], ld := [], lst := [], obj := [], q := [], raw := [] }
noncomputable def alarm_compares_c1.an : Ann := .nil
noncomputable abbrev alarm_compares_c1.c : Code := Try.f82.body.getD .skip
noncomputable def alarm_compares_c1.J (call : Cl) (n : Nat) : Jn (AEnd × H) := realJ Try.prog alarm_compares_c1.A call Try.f82 alarm_compares_c1.an alarm_compares_c1.c n
abbrev alarm_compares_c1.F (call : Cl) (n : Nat) (J : Jn (AEnd × H)) : Prop := JFix Try.prog alarm_compares_c1.A call Try.f82 alarm_compares_c1.an alarm_compares_c1.c n J
def alarm_compares_c1.f (J : Jn (AEnd × H)) (x0 x1 : AV) (h : H) : Option (AEnd × H) := J [] [] ⟨[(0, x0), (1, x1)], [], [], h⟩
theorem alarm_compares_c1.f_eq {call : Cl} {n : Nat} {J : Jn (AEnd × H)} (hJ : alarm_compares_c1.F call n J) (x0 x1 : AV) (h : H) : alarm_compares_c1.f J x0 x1 h =
  (bx h (AV.copy x0)).bind fun p1 =>
  (bx p1.2 (AV.copy x1)).bind fun p2 =>
  (fAddr 3 p1.1).bind fun v3 =>
  (ldCell p2.2 v3).bind fun v4 =>
  (fAddr 3 p2.1).bind fun v5 =>
  (ldCell p2.2 v5).bind fun v6 =>
  (call n_cmp_Compare_string [AV.canon v4, AV.canon v6] p2.2).bind fun p7 => retOr p7.1 (fun r8p => some (AEnd.pan r8p, p7.2)) fun r8 =>
  some (AEnd.ret r8, p7.2) := (hJ _ _ _ (by kernel_rfl)).trans (by kernel_rfl)
noncomputable def cmp_Compare_string.A : FAnn := { nv := 7, mv := [(3, 0), (4, 0), (7, 0), (11, 0), (11, 1)], ld := [], lst := [], obj := [], q := [], raw := [] }
noncomputable def cmp_Compare_string.an : Ann := .nil
noncomputable abbrev cmp_Compare_string.c : Code := Try.f83.body.getD .skip
noncomputable def cmp_Compare_string.J (call : Cl) (n : Nat) : Jn (AEnd × H) := realJ Try.prog cmp_Compare_string.A call Try.f83 cmp_Compare_string.an cmp_Compare_string.c n
abbrev cmp_Compare_string.F (call : Cl) (n : Nat) (J : Jn (AEnd × H)) : Prop := JFix Try.prog cmp_Compare_string.A call Try.f83 cmp_Compare_string.an cmp_Compare_string.c n J
def cmp_Compare_string.f (J : Jn (AEnd × H)) (x0 x1 : AV) (h : H) : Option (AEnd × H) := J [] [] ⟨[(0, x0), (1, x1)], [], [], h⟩
theorem cmp_Compare_string.f_eq {call : Cl} {n : Nat} {J : Jn (AEnd × H)} (hJ : cmp_Compare_string.F call n J) (x0 x1 : AV) (h : H) : cmp_Compare_string.f J x0 x1 h =
  (call n_cmp_isNaN_string [AV.canon x0] h).bind fun p1 => retOr p1.1 (fun r2p => some (AEnd.pan r2p, p1.2)) fun r2 =>
  (call n_cmp_isNaN_string [AV.canon x1] p1.2).bind fun p3 => retOr p3.1 (fun r4p => some (AEnd.pan r4p, p3.2)) fun r4 =>
  condV r2 (
    condV r4 (
      some (AEnd.ret (.int .i64 0), p3.2)) (
      some (AEnd.ret (.int .i64 (-1)), p3.2))) (
    condV r4 (
      some (AEnd.ret (.int .i64 1), p3.2)) (
      (bin .lss x0 x1).bind fun v5 =>
      condV v5 (
        some (AEnd.ret (.int .i64 (-1)), p3.2)) (
        (bin .gtr x0 x1).bind fun v6 =>
        condV v6 (
          some (AEnd.ret (.int .i64 1), p3.2)) (
          some (AEnd.ret (.int .i64 0), p3.2))))) := (hJ _ _ _ (by kernel_rfl)).trans (by kernel_rfl)
noncomputable def alarm_compares_c2.A : FAnn := { nv := 4, mv := [], ld := [], lst := [], obj := [], q := [], raw := [] }
noncomputable def alarm_compares_c2.an : Ann := .nil
noncomputable abbrev alarm_compares_c2.c : Code := Try.f84.body.getD .skip
noncomputable def alarm_compares_c2.J (call : Cl) (n : Nat) : Jn (AEnd × H) := realJ Try.prog alarm_compares_c2.A call Try.f84 alarm_compares_c2.an alarm_compares_c2.c n
abbrev alarm_compares_c2.F (call : Cl) (n : Nat) (J : Jn (AEnd × H)) : Prop := JFix Try.prog alarm_compares_c2.A call Try.f84 alarm_compares_c2.an alarm_compares_c2.c n J
def alarm_compares_c2.f (J : Jn (AEnd × H)) (x0 x1 : AV) (h : H) : Option (AEnd × H) := J [] [] ⟨[(0, x0), (1, x1)], [], [], h⟩
theorem alarm_compares_c2.f_eq {call : Cl} {n : Nat} {J : Jn (AEnd × H)} (hJ : alarm_compares_c2.F call n J) (x0 x1 : AV) (h : H) : alarm_compares_c2.f J x0 x1 h =
  (bx h (AV.copy x0)).bind fun p1 =>
  (bx p1.2 (AV.copy x1)).bind fun p2 =>
  (fAddr 4 p1.1).bind fun v3 =>
  (ldCell p2.2 v3).bind fun v4 =>
  (fAddr 4 p2.1).bind fun v5 =>
  (ldCell p2.2 v5).bind fun v6 =>
  (call n_cmp_Compare_int [AV.canon v4, AV.canon v6] p2.2).bind fun p7 => retOr p7.1 (fun r8p => some (AEnd.pan r8p, p7.2)) fun r8 =>
  some (AEnd.ret r8, p7.2) := (hJ _ _ _ (by kernel_rfl)).trans (by kernel_rfl)
noncomputable def cmp_Compare_int.A : FAnn := { nv := 7, mv := [(3, 0), (4, 0), (7, 0), (11, 0), (11, 1)], ld := [], lst := [], obj := [], q := [], raw := [] }
noncomputable def cmp_Compare_int.an : Ann := .nil
noncomputable abbrev cmp_Compare_int.c : Code := Try.f85.body.getD .skip
noncomputable def cmp_Compare_int.J (call : Cl) (n : Nat) : Jn (AEnd × H) := realJ Try.prog cmp_Compare_int.A call Try.f85 cmp_Compare_int.an cmp_Compare_int.c n
abbrev cmp_Compare_int.F (call : Cl) (n : Nat) (J : Jn (AEnd × H)) : Prop := JFix Try.prog cmp_Compare_int.A call Try.f85 cmp_Compare_int.an cmp_Compare_int.c n J
def cmp_Compare_int.f (J : Jn (AEnd × H)) (x0 x1 : AV) (h : H) : Option (AEnd × H) := J [] [] ⟨[(0, x0), (1, x1)], [], [], h⟩
theorem cmp_Compare_int.f_eq {call : Cl} {n : Nat} {J : Jn (AEnd × H)} (hJ : cmp_Compare_int.F call n J) (x0 x1 : AV) (h : H) : cmp_Compare_int.f J x0 x1 h =
  (call n_cmp_isNaN_int [AV.canon x0] h).bind fun p1 => retOr p1.1 (fun r2p => some (AEnd.pan r2p, p1.2)) fun r2 =>
  (call n_cmp_isNaN_int [AV.canon x1] p1.2).bind fun p3 => retOr p3.1 (fun r4p => some (AEnd.pan r4p, p3.2)) fun r4 =>
  condV r2 (
    condV r4 (
      some (AEnd.ret (.int .i64 0), p3.2)) (
      some (AEnd.ret (.int .i64 (-1)), p3.2))) (
    condV r4 (
      some (AEnd.ret (.int .i64 1), p3.2)) (
      (bin .lss x0 x1).bind fun v5 =>
      condV v5 (
        some (AEnd.ret (.int .i64 (-1)), p3.2)) (
        (bin .gtr x0 x1).bind fun v6 =>
        condV v6 (
          some (AEnd.ret (.int .i64 1), p3.2)) (
          some (AEnd.ret (.int .i64 0), p3.2))))) := (hJ _ _ _ (by kernel_rfl)).trans (by kernel_rfl)
noncomputable def alarm_compares_c3.A : FAnn := { nv := 4, mv := [], ld := [], lst := [], obj := [], q := [], raw := [] }
noncomputable def alarm_compares_c3.an : Ann := .nil
noncomputable abbrev alarm_compares_c3.c : Code := Try.f86.body.getD .skip
noncomputable def alarm_compares_c3.J (call : Cl) (n : Nat) : Jn (AEnd × H) := realJ Try.prog alarm_compares_c3.A call Try.f86 alarm_compares_c3.an alarm_compares_c3.c n
abbrev alarm_compares_c3.F (call : Cl) (n : Nat) (J : Jn (AEnd × H)) : Prop := JFix Try.prog alarm_compares_c3.A call Try.f86 alarm_compares_c3.an alarm_compares_c3.c n J
def alarm_compares_c3.f (J : Jn (AEnd × H)) (x0 x1 : AV) (h : H) : Option (AEnd × H) := J [] [] ⟨[(0, x0), (1, x1)], [], [], h⟩
theorem alarm_compares_c3.f_eq {call : Cl} {n : Nat} {J : Jn (AEnd × H)} (hJ : alarm_compares_c3.F call n J) (x0 x1 : AV) (h : H) : alarm_compares_c3.f J x0 x1 h =
  (bx h (AV.copy x0)).bind fun p1 =>
  (bx p1.2 (AV.copy x1)).bind fun p2 =>
  (fAddr 2 p1.1).bind fun v3 =>
  (ldCell p2.2 v3).bind fun v4 =>
  (fAddr 2 p2.1).bind fun v5 =>
  (ldCell p2.2 v5).bind fun v6 =>
  (call n_cmp_Compare_string [AV.canon v4, AV.canon v6] p2.2).bind fun p7 => retOr p7.1 (fun r8p => some (AEnd.pan r8p, p7.2)) fun r8 =>
  some (AEnd.ret r8, p7.2) := (hJ _ _ _ (by kernel_rfl)).trans (by kernel_rfl)
noncomputable def alarm_compares_c4.A : FAnn := { nv := 4, mv := [], ld := [], lst := [], obj := [], q := [], raw := [] }
noncomputable def alarm_compares_c4.an : Ann := .nil
noncomputable abbrev alarm_compares_c4.c : Code := Try.f87.body.getD .skip
noncomputable def alarm_compares_c4.J (call : Cl) (n : Nat) : Jn (AEnd × H) := realJ Try.prog alarm_compares_c4.A call Try.f87 alarm_compares_c4.an alarm_compares_c4.c n
abbrev alarm_compares_c4.F (call : Cl) (n : Nat) (J : Jn (AEnd × H)) : Prop := JFix Try.prog alarm_compares_c4.A call Try.f87 alarm_compares_c4.an alarm_compares_c4.c n J
def alarm_compares_c4.f (J : Jn (AEnd × H)) (x0 x1 : AV) (h : H) : Option (AEnd × H) := J [] [] ⟨[(0, x0), (1, x1)], [], [], h⟩
theorem alarm_compares_c4.f_eq {call : Cl} {n : Nat} {J : Jn (AEnd × H)} (hJ : alarm_compares_c4.F call n J) (x0 x1 : AV) (h : H) : alarm_compares_c4.f J x0 x1 h =
  (bx h (AV.copy x0)).bind fun p1 =>
  (bx p1.2 (AV.copy x1)).bind fun p2 =>
  (fAddr 0 p1.1).bind fun v3 =>
  (ldCell p2.2 v3).bind fun v4 =>
  (fAddr 0 p2.1).bind fun v5 =>
  (ldCell p2.2 v5).bind fun v6 =>
  (call n_cmp_Compare_int [AV.canon v4, AV.canon v6] p2.2).bind fun p7 => retOr p7.1 (fun r8p => some (AEnd.pan r8p, p7.2)) fun r8 =>
  some (AEnd.ret r8, p7.2) := (hJ _ _ _ (by kernel_rfl)).trans (by kernel_rfl)
noncomputable def alarm_compares_c5.A : FAnn := { nv := 4, mv := [], ld := [], lst := [], obj := [], q := [], raw := [] }
noncomputable def alarm_compares_c5.an : Ann := .nil
noncomputable abbrev alarm_compares_c5.c : Code := Try.f88.body.getD .skip
noncomputable def alarm_compares_c5.J (call : Cl) (n : Nat) : Jn (AEnd × H) := realJ Try.prog alarm_compares_c5.A call Try.f88 alarm_compares_c5.an alarm_compares_c5.c n
abbrev alarm_compares_c5.F (call : Cl) (n : Nat) (J : Jn (AEnd × H)) : Prop := JFix Try.prog alarm_compares_c5.A call Try.f88 alarm_compares_c5.an alarm_compares_c5.c n J
def alarm_compares_c5.f (J : Jn (AEnd × H)) (x0 x1 : AV) (h : H) : Option (AEnd × H) := J [] [] ⟨[(0, x0), (1, x1)], [], [], h⟩
theorem alarm_compares_c5.f_eq {call : Cl} {n : Nat} {J : Jn (AEnd × H)} (hJ : alarm_compares_c5.F call n J) (x0 x1 : AV) (h : H) : alarm_compares_c5.f J x0 x1 h =
  (bx h (AV.copy x0)).bind fun p1 =>
  (bx p1.2 (AV.copy x1)).bind fun p2 =>
  (fAddr 5 p1.1).bind fun v3 =>
  (ldCell p2.2 v3).bind fun v4 =>
  (fAddr 5 p2.1).bind fun v5 =>
  (ldCell p2.2 v5).bind fun v6 =>
  (call n_cmp_Compare_string [AV.canon v4, AV.canon v6] p2.2).bind fun p7 => retOr p7.1 (fun r8p => some (AEnd.pan r8p, p7.2)) fun r8 =>
  some (AEnd.ret r8, p7.2) := (hJ _ _ _ (by kernel_rfl)).trans (by kernel_rfl)
noncomputable def alarm_compares_c6.A : FAnn := { nv := 4, mv := [], ld := [], lst := [], obj := [], q := [], raw := [] }
noncomputable def alarm_compares_c6.an : Ann := .nil
noncomputable abbrev alarm_compares_c6.c : Code := Try.f89.body.getD .skip
noncomputable def alarm_compares_c6.J (call : Cl) (n : Nat) : Jn (AEnd × H) := realJ Try.prog alarm_compares_c6.A call Try.f89 alarm_compares_c6.an alarm_compares_c6.c n
abbrev alarm_compares_c6.F (call : Cl) (n : Nat) (J : Jn (AEnd × H)) : Prop := JFix Try.prog alarm_compares_c6.A call Try.f89 alarm_compares_c6.an alarm_compares_c6.c n J
def alarm_compares_c6.f (J : Jn (AEnd × H)) (x0 x1 : AV) (h : H) : Option (AEnd × H) := J [] [] ⟨[(0, x0), (1, x1)], [], [], h⟩
theorem alarm_compares_c6.f_eq {call : Cl} {n : Nat} {J : Jn (AEnd × H)} (hJ : alarm_compares_c6.F call n J) (x0 x1 : AV) (h : H) : alarm_compares_c6.f J x0 x1 h =
  (bx h (AV.copy x0)).bind fun p1 =>
  (bx p1.2 (AV.copy x1)).bind fun p2 =>
  (fAddr 1 p1.1).bind fun v3 =>
  (ldCell p2.2 v3).bind fun v4 =>
  (fAddr 1 p2.1).bind fun v5 =>
  (ldCell p2.2 v5).bind fun v6 =>
  (call n_cmp_Compare_int [AV.canon v4, AV.canon v6] p2.2).bind fun p7 => retOr p7.1 (fun r8p => some (AEnd.pan r8p, p7.2)) fun r8 =>
  some (AEnd.ret r8, p7.2) := (hJ _ _ _ (by kernel_rfl)).trans (by kernel_rfl)
noncomputable def ref11_more.A : FAnn := { nv := 2, mv := [(1, 11)], ld := [], lst := [], obj := [], q := [], raw := [] }
noncomputable def ref11_more.an : Ann := .nil
noncomputable abbrev ref11_more.c : Code := Try.f90.body.getD .skip
noncomputable def ref11_more.J (call : Cl) (n : Nat) : Jn (AEnd × H) := realJ Try.prog ref11_more.A call Try.f90 ref11_more.an ref11_more.c n
abbrev ref11_more.F (call : Cl) (n : Nat) (J : Jn (AEnd × H)) : Prop := JFix Try.prog ref11_more.A call Try.f90 ref11_more.an ref11_more.c n J
def ref11_more.f (J : Jn (AEnd × H)) (x0 : AV) (h : H) : Option (AEnd × H) := J [] [] ⟨[(0, x0)], [], [], h⟩
theorem ref11_more.f_eq {call : Cl} {n : Nat} {J : Jn (AEnd × H)} (hJ : ref11_more.F call n J) (x0 : AV) (h : H) : ref11_more.f J x0 h =
  (call n_warrantorref11_letter [AV.canon x0] h).bind fun p1 => retOr p1.1 (fun r2p => some (AEnd.pan r2p, p1.2)) fun r2 =>
  condV r2 (
    some (AEnd.ret (AV.copy (.bool true)), p1.2)) (
    (bin .geq x0 (.int .u8 48)).bind fun v3 =>
    condV v3 (
      (bin .leq x0 (.int .u8 57)).bind fun v4 =>
      condV v4 (
        some (AEnd.ret (AV.copy (.bool true)), p1.2)) (
        (bin .eql x0 (.int .u8 46)).bind fun v5 =>
        some (AEnd.ret (AV.copy v5), p1.2))) (
      (bin .eql x0 (.int .u8 46)).bind fun v6 =>
      some (AEnd.ret (AV.copy v6), p1.2))) := (hJ _ _ _ (by kernel_rfl)).trans (by kernel_rfl)
noncomputable def ref11_letter.A : FAnn := { nv := 2, mv := [(1, 15)], ld := [], lst := [], obj := [], q := [], raw := [] }
noncomputable def ref11_letter.an : Ann := .nil
noncomputable abbrev ref11_letter.c : Code := Try.f91.body.getD .skip
noncomputable def ref11_letter.J (call : Cl) (n : Nat) : Jn (AEnd × H) := realJ Try.prog ref11_letter.A call Try.f91 ref11_letter.an ref11_letter.c n
abbrev ref11_letter.F (call : Cl) (n : Nat) (J : Jn (AEnd × H)) : Prop := JFix Try.prog ref11_letter.A call Try.f91 ref11_letter.an ref11_letter.c n J
def ref11_letter.f (J : Jn (AEnd × H)) (x0 : AV) (h : H) : Option (AEnd × H) := J [] [] ⟨[(0, x0)], [], [], h⟩
theorem ref11_letter.f_eq {call : Cl} {n : Nat} {J : Jn (AEnd × H)} (hJ : ref11_letter.F call n J) (x0 : AV) (h : H) : ref11_letter.f J x0 h =
  (bin .geq x0 (.int .u8 97)).bind fun v1 =>
  condV v1 (
    (bin .leq x0 (.int .u8 122)).bind fun v2 =>
    condV v2 (
      some (AEnd.ret (AV.copy (.bool true)), h)) (
      (bin .geq x0 (.int .u8 65)).bind fun v3 =>
      condV v3 (
        (bin .leq x0 (.int .u8 90)).bind fun v4 =>
        condV v4 (
          some (AEnd.ret (AV.copy (.bool true)), h)) (
          (bin .eql x0 (.int .u8 95)).bind fun v5 =>
          some (AEnd.ret (AV.copy v5), h))) (
        (bin .eql x0 (.int .u8 95)).bind fun v6 =>
        some (AEnd.ret (AV.copy v6), h)))) (
    (bin .geq x0 (.int .u8 65)).bind fun v7 =>
    condV v7 (
      (bin .leq x0 (.int .u8 90)).bind fun v8 =>
      condV v8 (
        some (AEnd.ret (AV.copy (.bool true)), h)) (
        (bin .eql x0 (.int .u8 95)).bind fun v9 =>
        some (AEnd.ret (AV.copy v9), h))) (
      (bin .eql x0 (.int .u8 95)).bind fun v10 =>
      some (AEnd.ret (AV.copy v10), h))) := (hJ _ _ _ (by kernel_rfl)).trans (by kernel_rfl)
noncomputable def cmp_isNaN_uint64.A : FAnn := { nv := 2, mv := [(1, 1)], ld := [], lst := [], obj := [], q := [], raw := [] }
noncomputable def cmp_isNaN_uint64.an : Ann := .nil
noncomputable abbrev cmp_isNaN_uint64.c : Code := Try.f94.body.getD .skip
noncomputable def cmp_isNaN_uint64.J (call : Cl) (n : Nat) : Jn (AEnd × H) := realJ Try.prog cmp_isNaN_uint64.A call Try.f94 cmp_isNaN_uint64.an cmp_isNaN_uint64.c n
abbrev cmp_isNaN_uint64.F (call : Cl) (n : Nat) (J : Jn (AEnd × H)) : Prop := JFix Try.prog cmp_isNaN_uint64.A call Try.f94 cmp_isNaN_uint64.an cmp_isNaN_uint64.c n J
def cmp_isNaN_uint64.f (J : Jn (AEnd × H)) (x0 : AV) (h : H) : Option (AEnd × H) := J [] [] ⟨[(0, x0)], [], [], h⟩
theorem cmp_isNaN_uint64.f_eq {call : Cl} {n : Nat} {J : Jn (AEnd × H)} (hJ : cmp_isNaN_uint64.F call n J) (x0 : AV) (h : H) : cmp_isNaN_uint64.f J x0 h =
  (bin .neq x0 x0).bind fun v1 =>
  some (AEnd.ret (AV.copy v1), h) := (hJ _ _ _ (by kernel_rfl)).trans (by kernel_rfl)
noncomputable def result_note_c1.A : FAnn := { nv := 2, mv := [(1, 3)], ld := [], lst := [], obj := [], q := [], raw := [] }
noncomputable def result_note_c1.an : Ann := .nil
noncomputable abbrev result_note_c1.c : Code := Try.f95.body.getD .skip
noncomputable def result_note_c1.J (call : Cl) (n : Nat) : Jn (AEnd × H) := realJ Try.prog result_note_c1.A call Try.f95 result_note_c1.an result_note_c1.c n
abbrev result_note_c1.F (call : Cl) (n : Nat) (J : Jn (AEnd × H)) : Prop := JFix Try.prog result_note_c1.A call Try.f95 result_note_c1.an result_note_c1.c n J
def result_note_c1.f (J : Jn (AEnd × H)) (x0 : AV) (h : H) : Option (AEnd × H) := J [] [] ⟨[(0, x0)], [], [], h⟩
theorem result_note_c1.f_eq {call : Cl} {n : Nat} {J : Jn (AEnd × H)} (hJ : result_note_c1.F call n J) (x0 : AV) (h : H) : result_note_c1.f J x0 h =
  (bin .lss x0 (.int .i32 32)).bind fun v1 =>
  condV v1 (
    some (AEnd.ret (AV.copy (.bool true)), h)) (
    (bin .gtr x0 (.int .i32 126)).bind fun v2 =>
    some (AEnd.ret (AV.copy v2), h)) := (hJ _ _ _ (by kernel_rfl)).trans (by kernel_rfl)
noncomputable def strings_ContainsFunc.A : FAnn := { nv := 4, mv := [(1, 0), (1, 1)], ld := [], lst := [], obj := [], q := [], raw := [] }
noncomputable def strings_ContainsFunc.an : Ann := .nil
noncomputable abbrev strings_ContainsFunc.c : Code := Try.f96.body.getD .skip
noncomputable def strings_ContainsFunc.J (call : Cl) (n : Nat) : Jn (AEnd × H) := realJ Try.prog strings_ContainsFunc.A call Try.f96 strings_ContainsFunc.an strings_ContainsFunc.c n
abbrev strings_ContainsFunc.F (call : Cl) (n : Nat) (J : Jn (AEnd × H)) : Prop := JFix Try.prog strings_ContainsFunc.A call Try.f96 strings_ContainsFunc.an strings_ContainsFunc.c n J
def strings_ContainsFunc.f (J : Jn (AEnd × H)) (x0 x1 : AV) (h : H) : Option (AEnd × H) := J [] [] ⟨[(0, x0), (1, x1)], [], [], h⟩
theorem strings_ContainsFunc.f_eq {call : Cl} {n : Nat} {J : Jn (AEnd × H)} (hJ : strings_ContainsFunc.F call n J) (x0 x1 : AV) (h : H) : strings_ContainsFunc.f J x0 x1 h =
  (call n_strings_IndexFunc [AV.canon x0, AV.canon x1] h).bind fun p1 => retOr p1.1 (fun r2p => some (AEnd.pan r2p, p1.2)) fun r2 =>
  (bin .geq r2 (.int .i64 0)).bind fun v3 =>
  some (AEnd.ret (AV.copy v3), p1.2) := (hJ _ _ _ (by kernel_rfl)).trans (by kernel_rfl)
noncomputable def cur_Pen_put.A : FAnn := { nv := 4, mv := [(1, 1), (1, 5)], ld := [(1, 4)], lst := [], obj := [], q := [], raw := [] }
noncomputable def cur_Pen_put.an : Ann := .nil
noncomputable abbrev cur_Pen_put.c : Code := Try.f97.body.getD .skip
noncomputable def cur_Pen_put.J (call : Cl) (n : Nat) : Jn (AEnd × H) := realJ Try.prog cur_Pen_put.A call Try.f97 cur_Pen_put.an cur_Pen_put.c n
abbrev cur_Pen_put.F (call : Cl) (n : Nat) (J : Jn (AEnd × H)) : Prop := JFix Try.prog cur_Pen_put.A call Try.f97 cur_Pen_put.an cur_Pen_put.c n J
def cur_Pen_put.f (J : Jn (AEnd × H)) (x0 x1 : AV) (h : H) : Option (AEnd × H) := J [] [] ⟨[(0, x0), (1, x1)], [], [], h⟩
theorem cur_Pen_put.f_eq {call : Cl} {n : Nat} {J : Jn (AEnd × H)} (hJ : cur_Pen_put.F call n J) (x0 x1 : AV) (h : H) : cur_Pen_put.f J x0 x1 h =
  (eqv true (aeq Try.prog 20 101 x0 .nilPtr)).bind fun v1 =>
  condV v1 (
    (nilOk x0).bind fun v2 =>
    (fAddr 0 v2).bind fun v3 =>
    (ldTake h v3).bind fun p4 =>
    (apSlice 1 1 true true p4.2 p4.1 x1).bind fun v5 =>
    (nilOk x0).bind fun v6 =>
    (fAddr 0 v6).bind fun v7 =>
    (stN 1 p4.2 v7 v5).bind fun p8 =>
    some (AEnd.ret (.tuple []), p8.2)) (
    some (AEnd.ret (.tuple []), h)) := (hJ _ _ _ (by kernel_rfl)).trans (by kernel_rfl)
noncomputable def norm_Parts.A : FAnn := { nv := 6, mv := [(6, 0), (8, 0), (8, 2), (10, 0), (12, 0), (12, 2), (13, 0), (13, 2), (14, 0)], ld := [], lst := [], obj := [], q := [], raw := [] }
noncomputable def norm_Parts.an : Ann := .mk none .nil (.mk none (.mk none .nil (.mk none .nil (.mk none .nil (.mk none (.mk none (.mk none (.mk (some [(0, 0), (3, 255), (4, 0)]) .nil (.mk none (.mk none .nil (.mk none .nil (.mk none (.mk none (.mk none (.mk (some [(0, 0), (3, 255), (4, 0), (5, 0)]) .nil .nil) .nil) .nil) .nil))) .nil)) .nil) .nil) .nil)))) .nil)
noncomputable abbrev norm_Parts.c : Code := Try.f98.body.getD .skip
noncomputable def norm_Parts.J (call : Cl) (n : Nat) : Jn (AEnd × H) := realJ Try.prog norm_Parts.A call Try.f98 norm_Parts.an norm_Parts.c n
abbrev norm_Parts.F (call : Cl) (n : Nat) (J : Jn (AEnd × H)) : Prop := JFix Try.prog norm_Parts.A call Try.f98 norm_Parts.an norm_Parts.c n J
def norm_Parts.f (J : Jn (AEnd × H)) (x0 : AV) (h : H) : Option (AEnd × H) := J [] [] ⟨[(0, x0)], [], [], h⟩
def norm_Parts.l0 (J : Jn (AEnd × H)) (m0 : Nat) (x0 x3 x4 : AV) (h : H) : Option (AEnd × H) := J [1, 0, 1, 1, 1, 0, 0] [m0] ⟨[(0, x0), (3, x3), (4, x4)], [(0, 0), (3, 255), (4, 0)], [], h⟩
def norm_Parts.l1 (J : Jn (AEnd × H)) (m0 m1 : Nat) (x0 x3 x4 x5 : AV) (h : H) : Option (AEnd × H) := J [1, 0, 1, 1, 1, 0, 0, 0, 1, 0, 1, 1, 0, 0] [m0, m1] ⟨[(0, x0), (3, x3), (4, x4), (5, x5)], [(0, 0), (3, 255), (4, 0), (5, 0)], [], h⟩
theorem norm_Parts.f_eq {call : Cl} {n : Nat} {J : Jn (AEnd × H)} (hJ : norm_Parts.F call n J) (x0 : AV) (h : H) : norm_Parts.f J x0 h =
  norm_Parts.l0 J n x0 (.list [] .cap) (.int .i64 0) h := (hJ _ _ _ (by kernel_rfl)).trans (by kernel_rfl)
theorem norm_Parts.l0_eq {call : Cl} {n : Nat} {J : Jn (AEnd × H)} (hJ : norm_Parts.F call n J) (m0 : Nat) (x0 x3 x4 : AV) (h : H) : norm_Parts.l0 J (m0 + 1) x0 x3 x4 h =
  (lnStr x0).bind fun v1 =>
  (bin .lss x4 v1).bind fun v2 =>
  condV v2 (
    (ixStr x0 x4).bind fun v3 =>
    (call n_norm_word [AV.canon v3] h).bind fun p4 => retOr p4.1 (fun r5p => some (AEnd.pan r5p, p4.2)) fun r5 =>
    (unOp .not r5).bind fun v6 =>
    condV v6 (
      (bin .add x4 (.int .i64 1)).bind fun v7 =>
      (ixStr x0 x4).bind fun v8 =>
      (bin .neq v8 (.int .u8 32)).bind fun v9 =>
      condV v9 (
        (slStr x0 (some x4) (some v7)).bind fun v10 =>
        (mkRows 1 [.str []] 1 [(0, v10)]).bind fun v11 =>
        (apSlice 1 16 false true p4.2 x3 v11).bind fun v12 =>
        norm_Parts.l0 J m0 x0 v12 v7 p4.2) (
        norm_Parts.l0 J m0 x0 x3 v7 p4.2)) (
      norm_Parts.l1 J m0 n x0 x3 x4 x4 p4.2)) (
    some (AEnd.ret x3, h)) := (hJ _ _ _ (by kernel_rfl)).trans (by kernel_rfl)
theorem norm_Parts.l1_eq {call : Cl} {n : Nat} {J : Jn (AEnd × H)} (hJ : norm_Parts.F call n J) (m0 m1 : Nat) (x0 x3 x4 x5 : AV) (h : H) : norm_Parts.l1 J m0 (m1 + 1) x0 x3 x4 x5 h =
  (lnStr x0).bind fun v13 =>
  (bin .lss x4 v13).bind fun v14 =>
  condV v14 (
    (ixStr x0 x4).bind fun v15 =>
    (call n_norm_word [AV.canon v15] h).bind fun p16 => retOr p16.1 (fun r17p => some (AEnd.pan r17p, p16.2)) fun r17 =>
    (unOp .not r17).bind fun v18 =>
    condV v18 (
      (slStr x0 (some x5) (some x4)).bind fun v19 =>
      (mkRows 1 [.str []] 1 [(0, v19)]).bind fun v20 =>
      (apSlice 1 16 false true p16.2 x3 v20).bind fun v21 =>
      norm_Parts.l0 J m0 x0 v21 x4 p16.2) (
      (bin .add x4 (.int .i64 1)).bind fun v22 =>
      norm_Parts.l1 J m0 m1 x0 x3 v22 x5 p16.2)) (
    (slStr x0 (some x5) none).bind fun v23 =>
    (mkRows 1 [.str []] 1 [(0, v23)]).bind fun v24 =>
    (apSlice 1 16 false true h x3 v24).bind fun v25 =>
    norm_Parts.l0 J m0 x0 v25 x4 h) := (hJ _ _ _ (by kernel_rfl)).trans (by kernel_rfl)
noncomputable def norm_word.A : FAnn := { nv := 2, mv := [(1, 27)], ld := [], lst := [], obj := [], q := [], raw := [] }
noncomputable def norm_word.an : Ann := .nil
noncomputable abbrev norm_word.c : Code := Try.f99.body.getD .skip
noncomputable def norm_word.J (call : Cl) (n : Nat) : Jn (AEnd × H) := realJ Try.prog norm_word.A call Try.f99 norm_word.an norm_word.c n
abbrev norm_word.F (call : Cl) (n : Nat) (J : Jn (AEnd × H)) : Prop := JFix Try.prog norm_word.A call Try.f99 norm_word.an norm_word.c n J
def norm_word.f (J : Jn (AEnd × H)) (x0 : AV) (h : H) : Option (AEnd × H) := J [] [] ⟨[(0, x0)], [], [], h⟩
theorem norm_word.f_eq {call : Cl} {n : Nat} {J : Jn (AEnd × H)} (hJ : norm_word.F call n J) (x0 : AV) (h : H) : norm_word.f J x0 h =
  (bin .geq x0 (.int .u8 97)).bind fun v1 =>
  condV v1 (
    (bin .leq x0 (.int .u8 122)).bind fun v2 =>
    condV v2 (
      some (AEnd.ret (AV.copy (.bool true)), h)) (
      (bin .geq x0 (.int .u8 65)).bind fun v3 =>
      condV v3 (
        (bin .leq x0 (.int .u8 90)).bind fun v4 =>
        condV v4 (
          some (AEnd.ret (AV.copy (.bool true)), h)) (
          (bin .geq x0 (.int .u8 48)).bind fun v5 =>
          condV v5 (
            (bin .leq x0 (.int .u8 57)).bind fun v6 =>
            condV v6 (
              some (AEnd.ret (AV.copy (.bool true)), h)) (
              (bin .eql x0 (.int .u8 95)).bind fun v7 =>
              condV v7 (
                some (AEnd.ret (AV.copy (.bool true)), h)) (
                (bin .eql x0 (.int .u8 46)).bind fun v8 =>
                some (AEnd.ret (AV.copy v8), h)))) (
            (bin .eql x0 (.int .u8 95)).bind fun v9 =>
            condV v9 (
              some (AEnd.ret (AV.copy (.bool true)), h)) (
              (bin .eql x0 (.int .u8 46)).bind fun v10 =>
              some (AEnd.ret (AV.copy v10), h))))) (
        (bin .geq x0 (.int .u8 48)).bind fun v11 =>
        condV v11 (
          (bin .leq x0 (.int .u8 57)).bind fun v12 =>
          condV v12 (
            some (AEnd.ret (AV.copy (.bool true)), h)) (
            (bin .eql x0 (.int .u8 95)).bind fun v13 =>
            condV v13 (
              some (AEnd.ret (AV.copy (.bool true)), h)) (
              (bin .eql x0 (.int .u8 46)).bind fun v14 =>
              some (AEnd.ret (AV.copy v14), h)))) (
          (bin .eql x0 (.int .u8 95)).bind fun v15 =>
          condV v15 (
            some (AEnd.ret (AV.copy (.bool true)), h)) (
            (bin .eql x0 (.int .u8 46)).bind fun v16 =>
            some (AEnd.ret (AV.copy v16), h)))))) (
    (bin .geq x0 (.int .u8 65)).bind fun v17 =>
    condV v17 (
      (bin .leq x0 (.int .u8 90)).bind fun v18 =>
      condV v18 (
        some (AEnd.ret (AV.copy (.bool true)), h)) (
        (bin .geq x0 (.int .u8 48)).bind fun v19 =>
        condV v19 (
          (bin .leq x0 (.int .u8 57)).bind fun v20 =>
          condV v20 (
            some (AEnd.ret (AV.copy (.bool true)), h)) (
            (bin .eql x0 (.int .u8 95)).bind fun v21 =>
            condV v21 (
              some (AEnd.ret (AV.copy (.bool true)), h)) (
              (bin .eql x0 (.int .u8 46)).bind fun v22 =>
              some (AEnd.ret (AV.copy v22), h)))) (
          (bin .eql x0 (.int .u8 95)).bind fun v23 =>
          condV v23 (
            some (AEnd.ret (AV.copy (.bool true)), h)) (
            (bin .eql x0 (.int .u8 46)).bind fun v24 =>
            some (AEnd.ret (AV.copy v24), h))))) (
      (bin .geq x0 (.int .u8 48)).bind fun v25 =>
      condV v25 (
        (bin .leq x0 (.int .u8 57)).bind fun v26 =>
        condV v26 (
          some (AEnd.ret (AV.copy (.bool true)), h)) (
          (bin .eql x0 (.int .u8 95)).bind fun v27 =>
          condV v27 (
            some (AEnd.ret (AV.copy (.bool true)), h)) (
            (bin .eql x0 (.int .u8 46)).bind fun v28 =>
            some (AEnd.ret (AV.copy v28), h)))) (
        (bin .eql x0 (.int .u8 95)).bind fun v29 =>
        condV v29 (
          some (AEnd.ret (AV.copy (.bool true)), h)) (
          (bin .eql x0 (.int .u8 46)).bind fun v30 =>
          some (AEnd.ret (AV.copy v30), h))))) := (hJ _ _ _ (by kernel_rfl)).trans (by kernel_rfl)
noncomputable def strings_Builder_WriteByte.A : FAnn := { nv := 4, mv := [(2, 1), (2, 5)], ld := [(2, 4)], lst := [], obj := [], q := [], raw := [] }
noncomputable def strings_Builder_WriteByte.an : Ann := .nil
noncomputable abbrev strings_Builder_WriteByte.c : Code := Try.f100.body.getD .skip
noncomputable def strings_Builder_WriteByte.J (call : Cl) (n : Nat) : Jn (AEnd × H) := realJ Try.prog strings_Builder_WriteByte.A call Try.f100 strings_Builder_WriteByte.an strings_Builder_WriteByte.c n
abbrev strings_Builder_WriteByte.F (call : Cl) (n : Nat) (J : Jn (AEnd × H)) : Prop := JFix Try.prog strings_Builder_WriteByte.A call Try.f100 strings_Builder_WriteByte.an strings_Builder_WriteByte.c n J
def strings_Builder_WriteByte.f (J : Jn (AEnd × H)) (x0 x1 : AV) (h : H) : Option (AEnd × H) := J [] [] ⟨[(0, x0), (1, x1)], [], [], h⟩
theorem strings_Builder_WriteByte.f_eq {call : Cl} {n : Nat} {J : Jn (AEnd × H)} (hJ : strings_Builder_WriteByte.F call n J) (x0 x1 : AV) (h : H) : strings_Builder_WriteByte.f J x0 x1 h =
  (call n_strings_Builder_copyCheck [AV.canon x0] h).bind fun p1 => retOr p1.1 (fun r2p => some (AEnd.pan r2p, p1.2)) fun r2 =>
  (nilOk x0).bind fun v3 =>
  (fAddr 1 v3).bind fun v4 =>
  (ldTake p1.2 v4).bind fun p5 =>
  (mkRows 1 [.int .u8 0] 1 [(0, x1)]).bind fun v6 =>
  (apSlice 1 1 true true p5.2 p5.1 v6).bind fun v7 =>
  (nilOk x0).bind fun v8 =>
  (fAddr 1 v8).bind fun v9 =>
  (stN 1 p5.2 v9 v7).bind fun p10 =>
  some (AEnd.ret .nilIface, p10.2) := (hJ _ _ _ (by kernel_rfl)).trans (by kernel_rfl)
noncomputable def strings_Builder_WriteString.A : FAnn := { nv := 4, mv := [(2, 1), (3, 0)], ld := [(2, 4)], lst := [], obj := [], q := [], raw := [] }
noncomputable def strings_Builder_WriteString.an : Ann := .nil
noncomputable abbrev strings_Builder_WriteString.c : Code := Try.f101.body.getD .skip
noncomputable def strings_Builder_WriteString.J (call : Cl) (n : Nat) : Jn (AEnd × H) := realJ Try.prog strings_Builder_WriteString.A call Try.f101 strings_Builder_WriteString.an strings_Builder_WriteString.c n
abbrev strings_Builder_WriteString.F (call : Cl) (n : Nat) (J : Jn (AEnd × H)) : Prop := JFix Try.prog strings_Builder_WriteString.A call Try.f101 strings_Builder_WriteString.an strings_Builder_WriteString.c n J
def strings_Builder_WriteString.f (J : Jn (AEnd × H)) (x0 x1 : AV) (h : H) : Option (AEnd × H) := J [] [] ⟨[(0, x0), (1, x1)], [], [], h⟩
theorem strings_Builder_WriteString.f_eq {call : Cl} {n : Nat} {J : Jn (AEnd × H)} (hJ : strings_Builder_WriteString.F call n J) (x0 x1 : AV) (h : H) : strings_Builder_WriteString.f J x0 x1 h =
  (call n_strings_Builder_copyCheck [AV.canon x0] h).bind fun p1 => retOr p1.1 (fun r2p => some (AEnd.pan r2p, p1.2)) fun r2 =>
  (nilOk x0).bind fun v3 =>
  (fAddr 1 v3).bind fun v4 =>
  (ldTake p1.2 v4).bind fun p5 =>
  (apSlice 1 1 true true p5.2 p5.1 x1).bind fun v6 =>
  (nilOk x0).bind fun v7 =>
  (fAddr 1 v7).bind fun v8 =>
  (stN 1 p5.2 v8 v6).bind fun p9 =>
  (lnStr x1).bind fun v10 =>
  some (AEnd.ret (.tuple [(AV.copy v10), .nilIface]), p9.2) := (hJ _ _ _ (by kernel_rfl)).trans (by kernel_rfl)
noncomputable def slices_Clone_byte_byte.A : FAnn := { nv := 2, mv := [(3, 1)], ld := [], lst := [], obj := [], q := [], raw := [] }
noncomputable def slices_Clone_byte_byte.an : Ann := .nil
noncomputable abbrev slices_Clone_byte_byte.c : Code := Try.f103.body.getD .skip
noncomputable def slices_Clone_byte_byte.J (call : Cl) (n : Nat) : Jn (AEnd × H) := realJ Try.prog slices_Clone_byte_byte.A call Try.f103 slices_Clone_byte_byte.an slices_Clone_byte_byte.c n
abbrev slices_Clone_byte_byte.F (call : Cl) (n : Nat) (J : Jn (AEnd × H)) : Prop := JFix Try.prog slices_Clone_byte_byte.A call Try.f103 slices_Clone_byte_byte.an slices_Clone_byte_byte.c n J
def slices_Clone_byte_byte.f (J : Jn (AEnd × H)) (x0 : AV) (h : H) : Option (AEnd × H) := J [] [] ⟨[(0, x0)], [], [], h⟩
theorem slices_Clone_byte_byte.f_eq {call : Cl} {n : Nat} {J : Jn (AEnd × H)} (hJ : slices_Clone_byte_byte.F call n J) (x0 : AV) (h : H) : slices_Clone_byte_byte.f J x0 h =
  (slNil false x0).bind fun v1 =>
  condV v1 (
    some (AEnd.ret (.list [] .cap), h)) (
    (mkRows 1 [.int .u8 0] 0 []).bind fun v2 =>
    (apSlice 1 1 true false h v2 x0).bind fun v3 =>
    some (AEnd.ret v3, h)) := (hJ _ _ _ (by kernel_rfl)).trans (by kernel_rfl)
noncomputable def slices_rotateCmpFunc_int.A : FAnn := { nv := 12, mv := [(0, 1), (1, 0), (5, 0), (7, 0), (8, 0), (8, 4), (8, 5), (8, 6)], ld := [], lst := [], obj := [], q := [], raw := [] }
noncomputable def slices_rotateCmpFunc_int.an : Ann := .mk none .nil (.mk none .nil (.mk none (.mk none (.mk none (.mk (some [(0, 0), (2, 0), (4, 0), (10, 0), (11, 0)]) .nil .nil) .nil) .nil) .nil))
noncomputable abbrev slices_rotateCmpFunc_int.c : Code := Try.f104.body.getD .skip
noncomputable def slices_rotateCmpFunc_int.J (call : Cl) (n : Nat) : Jn (AEnd × H) := realJ Try.prog slices_rotateCmpFunc_int.A call Try.f104 slices_rotateCmpFunc_int.an slices_rotateCmpFunc_int.c n
abbrev slices_rotateCmpFunc_int.F (call : Cl) (n : Nat) (J : Jn (AEnd × H)) : Prop := JFix Try.prog slices_rotateCmpFunc_int.A call Try.f104 slices_rotateCmpFunc_int.an slices_rotateCmpFunc_int.c n J
def slices_rotateCmpFunc_int.f (J : Jn (AEnd × H)) (x0 x1 x2 x3 x4 : AV) (h : H) : Option (AEnd × H) := J [] [] ⟨[(0, x0), (1, x1), (2, x2), (3, x3), (4, x4)], [], [], h⟩
def slices_rotateCmpFunc_int.l0 (J : Jn (AEnd × H)) (m0 : Nat) (x0 x2 x4 x10 x11 : AV) (h : H) : Option (AEnd × H) := J [1, 1, 0, 0] [m0] ⟨[(0, x0), (2, x2), (4, x4), (10, x10), (11, x11)], [(0, 0), (2, 0), (4, 0), (10, 0), (11, 0)], [], h⟩
theorem slices_rotateCmpFunc_int.f_eq {call : Cl} {n : Nat} {J : Jn (AEnd × H)} (hJ : slices_rotateCmpFunc_int.F call n J) (x0 x1 x2 x3 x4 : AV) (h : H) : slices_rotateCmpFunc_int.f J x0 x1 x2 x3 x4 h =
  (bin .sub x2 x1).bind fun v1 =>
  (bin .sub x3 x2).bind fun v2 =>
  slices_rotateCmpFunc_int.l0 J n x0 x2 x4 v1 v2 h := (hJ _ _ _ (by kernel_rfl)).trans (by kernel_rfl)
theorem slices_rotateCmpFunc_int.l0_eq {call : Cl} {n : Nat} {J : Jn (AEnd × H)} (hJ : slices_rotateCmpFunc_int.F call n J) (m0 : Nat) (x0 x2 x4 x10 x11 : AV) (h : H) : slices_rotateCmpFunc_int.l0 J (m0 + 1) x0 x2 x4 x10 x11 h =
  (bin .neq x10 x11).bind fun v3 =>
  condV v3 (
    (bin .gtr x10 x11).bind fun v4 =>
    condV v4 (
      (bin .sub x2 x10).bind fun v5 =>
      (call n_slices_swapRangeCmpFunc_int [AV.canon x0, AV.canon v5, AV.canon x2, AV.canon x11, AV.canon x4] h).bind fun p6 => retOr p6.1 (fun r7p => some (AEnd.pan r7p, p6.2)) fun r7 =>
      (bin .sub x10 x11).bind fun v8 =>
      slices_rotateCmpFunc_int.l0 J m0 x0 x2 x4 v8 x11 p6.2) (
      (bin .sub x2 x10).bind fun v9 =>
      (bin .add x2 x11).bind fun v10 =>
      (bin .sub v10 x10).bind fun v11 =>
      (call n_slices_swapRangeCmpFunc_int [AV.canon x0, AV.canon v9, AV.canon v11, AV.canon x10, AV.canon x4] h).bind fun p12 => retOr p12.1 (fun r13p => some (AEnd.pan r13p, p12.2)) fun r13 =>
      (bin .sub x11 x10).bind fun v14 =>
      slices_rotateCmpFunc_int.l0 J m0 x0 x2 x4 x10 v14 p12.2)) (
    (bin .sub x2 x10).bind fun v15 =>
    (call n_slices_swapRangeCmpFunc_int [AV.canon x0, AV.canon v15, AV.canon x2, AV.canon x10, AV.canon x4] h).bind fun p16 => retOr p16.1 (fun r17p => some (AEnd.pan r17p, p16.2)) fun r17 =>
    some (AEnd.ret (.tuple []), p16.2)) := (hJ _ _ _ (by kernel_rfl)).trans (by kernel_rfl)
noncomputable def cmp_isNaN_string.A : FAnn := { nv := 2, mv := [(1, 1)], ld := [], lst := [], obj := [], q := [], raw := [] }
noncomputable def cmp_isNaN_string.an : Ann := .nil
noncomputable abbrev cmp_isNaN_string.c : Code := Try.f105.body.getD .skip
noncomputable def cmp_isNaN_string.J (call : Cl) (n : Nat) : Jn (AEnd × H) := realJ Try.prog cmp_isNaN_string.A call Try.f105 cmp_isNaN_string.an cmp_isNaN_string.c n
abbrev cmp_isNaN_string.F (call : Cl) (n : Nat) (J : Jn (AEnd × H)) : Prop := JFix Try.prog cmp_isNaN_string.A call Try.f105 cmp_isNaN_string.an cmp_isNaN_string.c n J
def cmp_isNaN_string.f (J : Jn (AEnd × H)) (x0 : AV) (h : H) : Option (AEnd × H) := J [] [] ⟨[(0, x0)], [], [], h⟩
theorem cmp_isNaN_string.f_eq {call : Cl} {n : Nat} {J : Jn (AEnd × H)} (hJ : cmp_isNaN_string.F call n J) (x0 : AV) (h : H) : cmp_isNaN_string.f J x0 h =
  (bin .neq x0 x0).bind fun v1 =>
  some (AEnd.ret (AV.copy v1), h) := (hJ _ _ _ (by kernel_rfl)).trans (by kernel_rfl)
noncomputable def cmp_isNaN_int.A : FAnn := { nv := 2, mv := [(1, 1)], ld := [], lst := [], obj := [], q := [], raw := [] }
noncomputable def cmp_isNaN_int.an : Ann := .nil
noncomputable abbrev cmp_isNaN_int.c : Code := Try.f106.body.getD .skip
noncomputable def cmp_isNaN_int.J (call : Cl) (n : Nat) : Jn (AEnd × H) := realJ Try.prog cmp_isNaN_int.A call Try.f106 cmp_isNaN_int.an cmp_isNaN_int.c n
abbrev cmp_isNaN_int.F (call : Cl) (n : Nat) (J : Jn (AEnd × H)) : Prop := JFix Try.prog cmp_isNaN_int.A call Try.f106 cmp_isNaN_int.an cmp_isNaN_int.c n J
def cmp_isNaN_int.f (J : Jn (AEnd × H)) (x0 : AV) (h : H) : Option (AEnd × H) := J [] [] ⟨[(0, x0)], [], [], h⟩
theorem cmp_isNaN_int.f_eq {call : Cl} {n : Nat} {J : Jn (AEnd × H)} (hJ : cmp_isNaN_int.F call n J) (x0 : AV) (h : H) : cmp_isNaN_int.f J x0 h =
  (bin .neq x0 x0).bind fun v1 =>
  some (AEnd.ret (AV.copy v1), h) := (hJ _ _ _ (by kernel_rfl)).trans (by kernel_rfl)
noncomputable def cmp_Less_uint64.A : FAnn := { nv := 4, mv := [(1, 8), (1, 9)], ld := [], lst := [], obj := [], q := [], raw := [] }
noncomputable def cmp_Less_uint64.an : Ann := .nil
noncomputable abbrev cmp_Less_uint64.c : Code := Try.f113.body.getD .skip
noncomputable def cmp_Less_uint64.J (call : Cl) (n : Nat) : Jn (AEnd × H) := realJ Try.prog cmp_Less_uint64.A call Try.f113 cmp_Less_uint64.an cmp_Less_uint64.c n
abbrev cmp_Less_uint64.F (call : Cl) (n : Nat) (J : Jn (AEnd × H)) : Prop := JFix Try.prog cmp_Less_uint64.A call Try.f113 cmp_Less_uint64.an cmp_Less_uint64.c n J
def cmp_Less_uint64.f (J : Jn (AEnd × H)) (x0 x1 : AV) (h : H) : Option (AEnd × H) := J [] [] ⟨[(0, x0), (1, x1)], [], [], h⟩
theorem cmp_Less_uint64.f_eq {call : Cl} {n : Nat} {J : Jn (AEnd × H)} (hJ : cmp_Less_uint64.F call n J) (x0 x1 : AV) (h : H) : cmp_Less_uint64.f J x0 x1 h =
  (call n_cmp_isNaN_uint64 [AV.canon x0] h).bind fun p1 => retOr p1.1 (fun r2p => some (AEnd.pan r2p, p1.2)) fun r2 =>
  condV r2 (
    (call n_cmp_isNaN_uint64 [AV.canon x1] p1.2).bind fun p3 => retOr p3.1 (fun r4p => some (AEnd.pan r4p, p3.2)) fun r4 =>
    (unOp .not r4).bind fun v5 =>
    condV v5 (
      some (AEnd.ret (AV.copy (.bool true)), p3.2)) (
      (bin .lss x0 x1).bind fun v6 =>
      some (AEnd.ret (AV.copy v6), p3.2))) (
    (bin .lss x0 x1).bind fun v7 =>
    some (AEnd.ret (AV.copy v7), p1.2)) := (hJ _ _ _ (by kernel_rfl)).trans (by kernel_rfl)
noncomputable def strings_IndexFunc.A : FAnn := { nv := 4, mv := [(1, 0), (1, 1)], ld := [], lst := [], obj := [], q := [], raw := [] }
noncomputable def strings_IndexFunc.an : Ann := .nil
noncomputable abbrev strings_IndexFunc.c : Code := Try.f118.body.getD .skip
noncomputable def strings_IndexFunc.J (call : Cl) (n : Nat) : Jn (AEnd × H) := realJ Try.prog strings_IndexFunc.A call Try.f118 strings_IndexFunc.an strings_IndexFunc.c n
abbrev strings_IndexFunc.F (call : Cl) (n : Nat) (J : Jn (AEnd × H)) : Prop := JFix Try.prog strings_IndexFunc.A call Try.f118 strings_IndexFunc.an strings_IndexFunc.c n J
def strings_IndexFunc.f (J : Jn (AEnd × H)) (x0 x1 : AV) (h : H) : Option (AEnd × H) := J [] [] ⟨[(0, x0), (1, x1)], [], [], h⟩
theorem strings_IndexFunc.f_eq {call : Cl} {n : Nat} {J : Jn (AEnd × H)} (hJ : strings_IndexFunc.F call n J) (x0 x1 : AV) (h : H) : strings_IndexFunc.f J x0 x1 h =
  (call n_strings_indexFunc [AV.canon x0, AV.canon x1, AV.canon (.bool true)] h).bind fun p1 => retOr p1.1 (fun r2p => some (AEnd.pan r2p, p1.2)) fun r2 =>
  some (AEnd.ret r2, p1.2) := (hJ _ _ _ (by kernel_rfl)).trans (by kernel_rfl)
noncomputable def slices_swapRangeCmpFunc_int.A : FAnn := { nv := 11, mv := [(2, 0)], ld := [], lst := [], obj := [], q := [], raw := [] }
noncomputable def slices_swapRangeCmpFunc_int.an : Ann := .mk none .nil (.mk none (.mk none (.mk (some [(0, 0), (1, 0), (2, 0), (3, 0), (10, 0)]) .nil .nil) .nil) .nil)
noncomputable abbrev slices_swapRangeCmpFunc_int.c : Code := Try.f120.body.getD .skip
noncomputable def slices_swapRangeCmpFunc_int.J (call : Cl) (n : Nat) : Jn (AEnd × H) := realJ Try.prog slices_swapRangeCmpFunc_int.A call Try.f120 slices_swapRangeCmpFunc_int.an slices_swapRangeCmpFunc_int.c n
abbrev slices_swapRangeCmpFunc_int.F (call : Cl) (n : Nat) (J : Jn (AEnd × H)) : Prop := JFix Try.prog slices_swapRangeCmpFunc_int.A call Try.f120 slices_swapRangeCmpFunc_int.an slices_swapRangeCmpFunc_int.c n J
def slices_swapRangeCmpFunc_int.f (J : Jn (AEnd × H)) (x0 x1 x2 x3 x4 : AV) (h : H) : Option (AEnd × H) := J [] [] ⟨[(0, x0), (1, x1), (2, x2), (3, x3), (4, x4)], [], [], h⟩
def slices_swapRangeCmpFunc_int.l0 (J : Jn (AEnd × H)) (m0 : Nat) (x0 x1 x2 x3 x10 : AV) (h : H) : Option (AEnd × H) := J [1, 0] [m0] ⟨[(0, x0), (1, x1), (2, x2), (3, x3), (10, x10)], [(0, 0), (1, 0), (2, 0), (3, 0), (10, 0)], [], h⟩
theorem slices_swapRangeCmpFunc_int.f_eq {call : Cl} {n : Nat} {J : Jn (AEnd × H)} (hJ : slices_swapRangeCmpFunc_int.F call n J) (x0 x1 x2 x3 x4 : AV) (h : H) : slices_swapRangeCmpFunc_int.f J x0 x1 x2 x3 x4 h =
  slices_swapRangeCmpFunc_int.l0 J n x0 x1 x2 x3 (.int .i64 0) h := (hJ _ _ _ (by kernel_rfl)).trans (by kernel_rfl)
theorem slices_swapRangeCmpFunc_int.l0_eq {call : Cl} {n : Nat} {J : Jn (AEnd × H)} (hJ : slices_swapRangeCmpFunc_int.F call n J) (m0 : Nat) (x0 x1 x2 x3 x10 : AV) (h : H) : slices_swapRangeCmpFunc_int.l0 J (m0 + 1) x0 x1 x2 x3 x10 h =
  (bin .lss x10 x3).bind fun v1 =>
  condV v1 (
    (bin .add x1 x10).bind fun v2 =>
    (bin .add x2 x10).bind fun v3 =>
    (bin .add x2 x10).bind fun v4 =>
    (ixSlice 1 x0 v4).bind fun v5 =>
    (ldCell h v5).bind fun v6 =>
    (bin .add x1 x10).bind fun v7 =>
    (ixSlice 1 x0 v7).bind fun v8 =>
    (ldCell h v8).bind fun v9 =>
    (ixSlice 1 x0 v2).bind fun v10 =>
    (stN 1 h v10 (AV.copy v6)).bind fun p11 =>
    (ixSlice 1 x0 v3).bind fun v12 =>
    (stN 1 p11.2 v12 (AV.copy v9)).bind fun p13 =>
    (bin .add x10 (.int .i64 1)).bind fun v14 =>
    slices_swapRangeCmpFunc_int.l0 J m0 x0 x1 x2 x3 v14 p13.2) (
    some (AEnd.ret (.tuple []), h)) := (hJ _ _ _ (by kernel_rfl)).trans (by kernel_rfl)
noncomputable def strings_indexFunc.A : FAnn := { nv := 9, mv := [(1, 0), (4, 1), (5, 0)], ld := [], lst := [], obj := [], q := [], raw := [] }
noncomputable def strings_indexFunc.an : Ann := .mk none .nil (.mk none (.mk none .nil (.mk none (.mk none (.mk (some [(1, 0), (2, 0), (10, 0)]) .nil .nil) .nil) .nil)) .nil)
noncomputable abbrev strings_indexFunc.c : Code := Try.f126.body.getD .skip
noncomputable def strings_indexFunc.J (call : Cl) (n : Nat) : Jn (AEnd × H) := realJ Try.prog strings_indexFunc.A call Try.f126 strings_indexFunc.an strings_indexFunc.c n
abbrev strings_indexFunc.F (call : Cl) (n : Nat) (J : Jn (AEnd × H)) : Prop := JFix Try.prog strings_indexFunc.A call Try.f126 strings_indexFunc.an strings_indexFunc.c n J
def strings_indexFunc.f (J : Jn (AEnd × H)) (x0 x1 x2 : AV) (h : H) : Option (AEnd × H) := J [] [] ⟨[(0, x0), (1, x1), (2, x2)], [], [], h⟩
def strings_indexFunc.l0 (J : Jn (AEnd × H)) (m0 : Nat) (x1 x2 x10 : AV) (h : H) : Option (AEnd × H) := J [1, 0, 1, 0] [m0] ⟨[(1, x1), (2, x2), (10, x10)], [(1, 0), (2, 0), (10, 0)], [], h⟩
theorem strings_indexFunc.f_eq {call : Cl} {n : Nat} {J : Jn (AEnd × H)} (hJ : strings_indexFunc.F call n J) (x0 x1 x2 : AV) (h : H) : strings_indexFunc.f J x0 x1 x2 h =
  (rgStr h x0).bind fun p1 =>
  strings_indexFunc.l0 J n x1 x2 p1.1 p1.2 := (hJ _ _ _ (by kernel_rfl)).trans (by kernel_rfl)
theorem strings_indexFunc.l0_eq {call : Cl} {n : Nat} {J : Jn (AEnd × H)} (hJ : strings_indexFunc.F call n J) (m0 : Nat) (x1 x2 x10 : AV) (h : H) : strings_indexFunc.l0 J (m0 + 1) x1 x2 x10 h =
  (next h x10 true).bind fun p2 =>
  (exTuple 0 p2.1).bind fun v3 =>
  condV v3 (
    (exTuple 1 p2.1).bind fun v4 =>
    (exTuple 2 p2.1).bind fun v5 =>
    (callVal call p2.2 x1 [AV.canon v5]).bind fun p6 => retOr p6.1 (fun r7p => some (AEnd.pan r7p, p6.2)) fun r7 =>
    (binBool .eql r7 x2).bind fun v8 =>
    condV v8 (
      some (AEnd.ret (AV.copy v4), p6.2)) (
      strings_indexFunc.l0 J m0 x1 x2 x10 p6.2)) (
    some (AEnd.ret (.int .i64 (-1)), p2.2)) := (hJ _ _ _ (by kernel_rfl)).trans (by kernel_rfl)
end Go.Proofs.Ytdggnlgklicbdaa
