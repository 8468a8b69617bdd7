/- The functions, as the evaluator sees them: printed by a program. -/
import Derived.Test.YtdlnkfghgbddhaaGreatVa5
import Derived.Test.YtdlnkfghgbddhaaGreatProg
import Derived.Test.YtdlnkfghgbddhaaGreatPJN
set_option linter.all false

open Go Go.Ve Go.Proofs
namespace Go.Proofs.YtdlnkfghgbddhaaGreat
set_option maxRecDepth 100000

/-! ### warrantor/warrantorref03.take: function 153 -/
noncomputable def warrantorref03_take.A : FAnn := { nv := 7, mv := [(1, 0), (4, 0), (5, 0), (6, 0), (7, 0)], ld := [], lst := [], obj := [], q := [], raw := [] }
noncomputable def warrantorref03_take.an : Ann := .mk none .nil (.mk none .nil (.mk none (.mk none .nil (.mk none (.mk none (.mk (some [(0, 0), (5, 0), (6, 0)]) .nil .nil) .nil) .nil)) .nil))
noncomputable abbrev warrantorref03_take.c : Code := Tryz.f153.body.getD .skip
noncomputable def warrantorref03_take.J (call : Cl) (n : Nat) : Jn (AEnd × H) := realJ Tryz.prog warrantorref03_take.A call Tryz.f153 warrantorref03_take.an warrantorref03_take.c n
abbrev warrantorref03_take.F (call : Cl) (n : Nat) (J : Jn (AEnd × H)) : Prop := JFix Tryz.prog warrantorref03_take.A call Tryz.f153 warrantorref03_take.an warrantorref03_take.c n J
def warrantorref03_take.f (J : Jn (AEnd × H)) (x0 x1 : AV) (h : H) : Option (AEnd × H) := J [] [] ⟨[(0, x0), (1, x1)], [], [], h⟩
def warrantorref03_take.l0 (J : Jn (AEnd × H)) (m0 : Nat) (x0 x5 x6 : AV) (h : H) : Option (AEnd × H) := J [1, 1, 0, 1, 0] [m0] ⟨[(0, x0), (5, x5), (6, x6)], [(0, 0), (5, 0), (6, 0)], [], h⟩
theorem warrantorref03_take.f_eq {call : Cl} {n : Nat} {J : Jn (AEnd × H)} (hJ : warrantorref03_take.F call n J) (x0 x1 : AV) (h : H) : warrantorref03_take.f J x0 x1 h =
  (cvInt .u32 x1).bind fun v1 =>
  warrantorref03_take.l0 J n x0 v1 (.int .i64 0) h := (hJ _ _ _ (by kernel_rfl)).trans (by kernel_rfl)
theorem warrantorref03_take.l0_eq {call : Cl} {n : Nat} {J : Jn (AEnd × H)} (hJ : warrantorref03_take.F call n J) (m0 : Nat) (x0 x5 x6 : AV) (h : H) : warrantorref03_take.l0 J (m0 + 1) x0 x5 x6 h =
  (bin .lss x6 (.int .i64 8)).bind fun v2 =>
  condV v2 (
    (call n_warrantorref03_bit [AV.canon x0, AV.canon x5] h).bind fun p3 => retOr p3.1 (fun r4p => some (AEnd.pan r4p, p3.2)) fun r4 =>
    (bin .quo x5 (.int .u32 2)).bind fun v5 =>
    (bin .add x6 (.int .i64 1)).bind fun v6 =>
    warrantorref03_take.l0 J m0 r4 v5 v6 p3.2) (
    some (AEnd.ret (AV.copy x0), h)) := (hJ _ _ _ (by kernel_rfl)).trans (by kernel_rfl)
/-! ### warrantor/warrantorref01.Get: function 154 -/
noncomputable def warrantorref01_Get.A : FAnn := { nv := 9, mv := [(5, 0), (9, 0), (10, 0), (11, 0), (11, 1), (12, 0)], ld := [], lst := [], obj := [], q := [], raw := [] }
noncomputable def warrantorref01_Get.an : Ann := .mk none .nil (.mk none .nil (.mk none .nil (.mk none (.mk none .nil (.mk none (.mk none (.mk (some [(0, 0), (5, 0), (6, 0), (7, 0)]) .nil (.mk none (.mk none (.mk none .nil (.mk none (.mk none .nil (.mk (some [(0, 0), (5, 0), (6, 0), (7, 0), (8, 255), (33, 0)]) .nil .nil)) (.mk (some [(0, 0), (5, 0), (6, 0), (7, 0), (8, 255)]) .nil .nil))) .nil) .nil)) .nil) .nil)) .nil)))
noncomputable abbrev warrantorref01_Get.c : Code := Tryz.f154.body.getD .skip
noncomputable def warrantorref01_Get.J (call : Cl) (n : Nat) : Jn (AEnd × H) := realJ Tryz.prog warrantorref01_Get.A call Tryz.f154 warrantorref01_Get.an warrantorref01_Get.c n
abbrev warrantorref01_Get.F (call : Cl) (n : Nat) (J : Jn (AEnd × H)) : Prop := JFix Tryz.prog warrantorref01_Get.A call Tryz.f154 warrantorref01_Get.an warrantorref01_Get.c n J
def warrantorref01_Get.f (J : Jn (AEnd × H)) (x0 : AV) (h : H) : Option (AEnd × H) := J [] [] ⟨[(0, x0)], [], [], h⟩
def warrantorref01_Get.l0 (J : Jn (AEnd × H)) (m0 : Nat) (x0 x5 x6 x7 : AV) (h : H) : Option (AEnd × H) := J [1, 1, 1, 0, 1, 0] [m0] ⟨[(0, x0), (5, x5), (6, x6), (7, x7)], [(0, 0), (5, 0), (6, 0), (7, 0)], [], h⟩
def warrantorref01_Get.j1 (J : Jn (AEnd × H)) (m0 : Nat) (x0 x5 x6 x7 x8 x33 : AV) (h : H) : Option (AEnd × H) := J [1, 1, 1, 0, 1, 0, 0, 1, 0, 0, 1, 0, 1] [m0] ⟨[(0, x0), (5, x5), (6, x6), (7, x7), (8, x8), (33, x33)], [(0, 0), (5, 0), (6, 0), (7, 0), (8, 255), (33, 0)], [], h⟩
def warrantorref01_Get.j0 (J : Jn (AEnd × H)) (m0 : Nat) (x0 x5 x6 x7 x8 : AV) (h : H) : Option (AEnd × H) := J [1, 1, 1, 0, 1, 0, 0, 1, 0, 0, 1, 1] [m0] ⟨[(0, x0), (5, x5), (6, x6), (7, x7), (8, x8)], [(0, 0), (5, 0), (6, 0), (7, 0), (8, 255)], [], h⟩
theorem warrantorref01_Get.f_eq {call : Cl} {n : Nat} {J : Jn (AEnd × H)} (hJ : warrantorref01_Get.F call n J) (x0 : AV) (h : H) : warrantorref01_Get.f J x0 h =
  warrantorref01_Get.l0 J n x0 (.int .u64 0) (.int .u64 1) (.int .i64 0) h := (hJ _ _ _ (by kernel_rfl)).trans (by kernel_rfl)
theorem warrantorref01_Get.l0_eq {call : Cl} {n : Nat} {J : Jn (AEnd × H)} (hJ : warrantorref01_Get.F call n J) (m0 : Nat) (x0 x5 x6 x7 : AV) (h : H) : warrantorref01_Get.l0 J (m0 + 1) x0 x5 x6 x7 h =
  (lnSl x0).bind fun v1 =>
  (bin .lss x7 v1).bind fun v2 =>
  condV v2 (
    (ixSlice 1 x0 x7).bind fun v3 =>
    (ldCell h v3).bind fun v4 =>
    (cvInt .u64 v4).bind fun v5 =>
    (bin .eql x7 (.int .i64 9)).bind fun v6 =>
    condV v6 (
      (bin .gtr v5 (.int .u64 1)).bind fun v7 =>
      condV v7 (
        warrantorref01_Get.j1 J m0 x0 x5 x6 x7 v5 (.bool true) h) (
        (bin .eql v5 (.int .u64 0)).bind fun v8 =>
        condV v8 (
          (bin .gtr x7 (.int .i64 0)).bind fun v9 =>
          warrantorref01_Get.j1 J m0 x0 x5 x6 x7 v5 v9 h) (
          warrantorref01_Get.j1 J m0 x0 x5 x6 x7 v5 (.bool false) h))) (
      (bin .eql v5 (.int .u64 0)).bind fun v10 =>
      condV v10 (
        (bin .gtr x7 (.int .i64 0)).bind fun v11 =>
        warrantorref01_Get.j1 J m0 x0 x5 x6 x7 v5 v11 h) (
        warrantorref01_Get.j1 J m0 x0 x5 x6 x7 v5 (.bool false) h))) (
    some (AEnd.ret (.tuple [(.int .u64 0), (.int .i64 0), (.int .i64 10)]), h)) := (hJ _ _ _ (by kernel_rfl)).trans (by kernel_rfl)
theorem warrantorref01_Get.j1_eq {call : Cl} {n : Nat} {J : Jn (AEnd × H)} (hJ : warrantorref01_Get.F call n J) (m0 : Nat) (x0 x5 x6 x7 x8 x33 : AV) (h : H) : warrantorref01_Get.j1 J m0 x0 x5 x6 x7 x8 x33 h =
  condV x33 (
    some (AEnd.ret (.tuple [(.int .u64 0), (.int .i64 0), (.int .i64 11)]), h)) (
    warrantorref01_Get.j0 J m0 x0 x5 x6 x7 x8 h) := (hJ _ _ _ (by kernel_rfl)).trans (by kernel_rfl)
theorem warrantorref01_Get.j0_eq {call : Cl} {n : Nat} {J : Jn (AEnd × H)} (hJ : warrantorref01_Get.F call n J) (m0 : Nat) (x0 x5 x6 x7 x8 : AV) (h : H) : warrantorref01_Get.j0 J m0 x0 x5 x6 x7 x8 h =
  (bin .rem x8 (.int .u64 128)).bind fun v12 =>
  (bin .mul x6 v12).bind fun v13 =>
  (bin .add x5 v13).bind fun v14 =>
  (bin .lss x8 (.int .u64 128)).bind fun v15 =>
  condV v15 (
    (bin .add x7 (.int .i64 1)).bind fun v16 =>
    some (AEnd.ret (.tuple [(AV.copy v14), (AV.copy v16), (.int .i64 0)]), h)) (
    (bin .mul x6 (.int .u64 128)).bind fun v17 =>
    (bin .add x7 (.int .i64 1)).bind fun v18 =>
    warrantorref01_Get.l0 J m0 x0 v14 v17 v18 h) := (hJ _ _ _ (by kernel_rfl)).trans (by kernel_rfl)
/-! ### strings.IndexFunc: function 155 -/
noncomputable def strings_IndexFunc.A : FAnn := { nv := 4, mv := [(1, 0), (1, 1)], ld := [], lst := [], obj := [], q := [], raw := [] }
noncomputable def strings_IndexFunc.an : Ann := .nil
noncomputable abbrev strings_IndexFunc.c : Code := Tryz.f155.body.getD .skip
noncomputable def strings_IndexFunc.J (call : Cl) (n : Nat) : Jn (AEnd × H) := realJ Tryz.prog strings_IndexFunc.A call Tryz.f155 strings_IndexFunc.an strings_IndexFunc.c n
abbrev strings_IndexFunc.F (call : Cl) (n : Nat) (J : Jn (AEnd × H)) : Prop := JFix Tryz.prog strings_IndexFunc.A call Tryz.f155 strings_IndexFunc.an strings_IndexFunc.c n J
def strings_IndexFunc.f (J : Jn (AEnd × H)) (x0 x1 : AV) (h : H) : Option (AEnd × H) := J [] [] ⟨[(0, x0), (1, x1)], [], [], h⟩
theorem strings_IndexFunc.f_eq {call : Cl} {n : Nat} {J : Jn (AEnd × H)} (hJ : strings_IndexFunc.F call n J) (x0 x1 : AV) (h : H) : strings_IndexFunc.f J x0 x1 h =
  (call n_strings_indexFunc [AV.canon x0, AV.canon x1, AV.canon (.bool true)] h).bind fun p1 => retOr p1.1 (fun r2p => some (AEnd.pan r2p, p1.2)) fun r2 =>
  some (AEnd.ret r2, p1.2) := (hJ _ _ _ (by kernel_rfl)).trans (by kernel_rfl)
/-! ### warrantor/prog.kinds: function 156 -/
noncomputable def prog_kinds.A : FAnn := { nv := 2, mv := [(2, 1)], ld := [], lst := [], obj := [], q := [], raw := [] }
noncomputable def prog_kinds.an : Ann := .nil
noncomputable abbrev prog_kinds.c : Code := Tryz.f156.body.getD .skip
noncomputable def prog_kinds.J (call : Cl) (n : Nat) : Jn (AEnd × H) := realJ Tryz.prog prog_kinds.A call Tryz.f156 prog_kinds.an prog_kinds.c n
abbrev prog_kinds.F (call : Cl) (n : Nat) (J : Jn (AEnd × H)) : Prop := JFix Tryz.prog prog_kinds.A call Tryz.f156 prog_kinds.an prog_kinds.c n J
def prog_kinds.f (J : Jn (AEnd × H)) (h : H) : Option (AEnd × H) := J [] [] ⟨[], [], [], h⟩
theorem prog_kinds.f_eq {call : Cl} {n : Nat} {J : Jn (AEnd × H)} (hJ : prog_kinds.F call n J) (h : H) : prog_kinds.f J  h =
  let h1 : H := h ++ [.arr [.nilFunc, .nilFunc, .nilFunc, .nilFunc, .nilFunc, .nilFunc] false]
  (mkAgg [.nilFunc, .nilFunc, .nilFunc, .nilFunc, .nilFunc, .nilFunc] [(1, 1, AV.copy (.func (.func n_prog_kinds_c2) [] [])), (2, 1, AV.copy (.func (.func n_prog_kinds_c3) [] [])), (3, 1, AV.copy (.func (.func n_prog_kinds_c4) [] [])), (4, 1, AV.copy (.func (.func n_prog_kinds_c1) [] [])), (5, 1, AV.copy (.func (.func n_prog_kinds_c1) [] []))]).bind fun v2 =>
  (stN 6 h1 (.ptr h.length 0) v2).bind fun p3 =>
  (resN [(ldAgg 6 p3.2 (.ptr h.length 0)).map AV.copy]).map fun v => (AEnd.ret v, p3.2) := (hJ _ _ _ (by kernel_rfl)).trans (by kernel_rfl)
/-! ### warrantor/prog.named: function 157 -/
noncomputable def prog_named.A : FAnn := { nv := 9, mv := [(4, 0), (4, 9), (6, 3), (6, 5)], ld := [], lst := [], obj := [], q := [], raw := [] }
noncomputable def prog_named.an : Ann := .mk none .nil (.mk none (.mk none .nil (.mk none (.mk none (.mk (some [(0, 0), (1, 0), (2, 0), (10, 0)]) .nil (.mk none .nil (.mk none (.mk none .nil (.mk none .nil (.mk (some [(0, 0), (1, 0), (2, 0), (10, 0), (27, 0)]) .nil .nil))) .nil))) .nil) .nil)) .nil)
noncomputable abbrev prog_named.c : Code := Tryz.f157.body.getD .skip
noncomputable def prog_named.J (call : Cl) (n : Nat) : Jn (AEnd × H) := realJ Tryz.prog prog_named.A call Tryz.f157 prog_named.an prog_named.c n
abbrev prog_named.F (call : Cl) (n : Nat) (J : Jn (AEnd × H)) : Prop := JFix Tryz.prog prog_named.A call Tryz.f157 prog_named.an prog_named.c n J
def prog_named.f (J : Jn (AEnd × H)) (x0 x1 x2 : AV) (h : H) : Option (AEnd × H) := J [] [] ⟨[(0, x0), (1, x1), (2, x2)], [], [], h⟩
def prog_named.l0 (J : Jn (AEnd × H)) (m0 : Nat) (x0 x1 x2 x10 : AV) (h : H) : Option (AEnd × H) := J [1, 0, 1, 0] [m0] ⟨[(0, x0), (1, x1), (2, x2), (10, x10)], [(0, 0), (1, 0), (2, 0), (10, 0)], [], h⟩
def prog_named.j0 (J : Jn (AEnd × H)) (m0 : Nat) (x0 x1 x2 x10 x27 : AV) (h : H) : Option (AEnd × H) := J [1, 0, 1, 0, 0, 1, 1, 0, 1, 1] [m0] ⟨[(0, x0), (1, x1), (2, x2), (10, x10), (27, x27)], [(0, 0), (1, 0), (2, 0), (10, 0), (27, 0)], [], h⟩
theorem prog_named.f_eq {call : Cl} {n : Nat} {J : Jn (AEnd × H)} (hJ : prog_named.F call n J) (x0 x1 x2 : AV) (h : H) : prog_named.f J x0 x1 x2 h =
  (rgStr h x0).bind fun p1 =>
  prog_named.l0 J n x0 x1 x2 p1.1 p1.2 := (hJ _ _ _ (by kernel_rfl)).trans (by kernel_rfl)
theorem prog_named.l0_eq {call : Cl} {n : Nat} {J : Jn (AEnd × H)} (hJ : prog_named.F call n J) (m0 : Nat) (x0 x1 x2 x10 : AV) (h : H) : prog_named.l0 J (m0 + 1) x0 x1 x2 x10 h =
  (next h x10 true).bind fun p2 =>
  (exTuple 0 p2.1).bind fun v3 =>
  condV v3 (
    (exTuple 1 p2.1).bind fun v4 =>
    (exTuple 2 p2.1).bind fun v5 =>
    (bin .eql v4 (.int .i64 0)).bind fun v6 =>
    condV v6 (
      (call n_prog_letter [AV.canon v5] p2.2).bind fun p7 => retOr p7.1 (fun r8p => some (AEnd.pan r8p, p7.2)) fun r8 =>
      (unOp .not r8).bind fun v9 =>
      condV v9 (
        prog_named.j0 J m0 x0 x1 x2 x10 (.bool true) p7.2) (
        (callVal call p7.2 x2 [AV.canon v5]).bind fun p10 => retOr p10.1 (fun r11p => some (AEnd.pan r11p, p10.2)) fun r11 =>
        (unOp .not r11).bind fun v12 =>
        prog_named.j0 J m0 x0 x1 x2 x10 v12 p10.2)) (
      (callVal call p2.2 x2 [AV.canon v5]).bind fun p13 => retOr p13.1 (fun r14p => some (AEnd.pan r14p, p13.2)) fun r14 =>
      (unOp .not r14).bind fun v15 =>
      prog_named.j0 J m0 x0 x1 x2 x10 v15 p13.2)) (
    (bin .neq x0 (.str [])).bind fun v16 =>
    condV v16 (
      (lnStr x0).bind fun v17 =>
      (bin .leq v17 x1).bind fun v18 =>
      some (AEnd.ret (AV.copy v18), p2.2)) (
      some (AEnd.ret (AV.copy (.bool false)), p2.2))) := (hJ _ _ _ (by kernel_rfl)).trans (by kernel_rfl)
theorem prog_named.j0_eq {call : Cl} {n : Nat} {J : Jn (AEnd × H)} (hJ : prog_named.F call n J) (m0 : Nat) (x0 x1 x2 x10 x27 : AV) (h : H) : prog_named.j0 J m0 x0 x1 x2 x10 x27 h =
  condV x27 (
    some (AEnd.ret (.bool false), h)) (
    prog_named.l0 J m0 x0 x1 x2 x10 h) := (hJ _ _ _ (by kernel_rfl)).trans (by kernel_rfl)
/-! ### warrantor/prog.plain: function 158 -/
noncomputable def prog_plain.A : FAnn := { nv := 2, mv := [(1, 11)], ld := [], lst := [], obj := [], q := [], raw := [] }
noncomputable def prog_plain.an : Ann := .nil
noncomputable abbrev prog_plain.c : Code := Tryz.f158.body.getD .skip
noncomputable def prog_plain.J (call : Cl) (n : Nat) : Jn (AEnd × H) := realJ Tryz.prog prog_plain.A call Tryz.f158 prog_plain.an prog_plain.c n
abbrev prog_plain.F (call : Cl) (n : Nat) (J : Jn (AEnd × H)) : Prop := JFix Tryz.prog prog_plain.A call Tryz.f158 prog_plain.an prog_plain.c n J
def prog_plain.f (J : Jn (AEnd × H)) (x0 : AV) (h : H) : Option (AEnd × H) := J [] [] ⟨[(0, x0)], [], [], h⟩
theorem prog_plain.f_eq {call : Cl} {n : Nat} {J : Jn (AEnd × H)} (hJ : prog_plain.F call n J) (x0 : AV) (h : H) : prog_plain.f J x0 h =
  (call n_prog_letter [AV.canon x0] h).bind fun p1 => retOr p1.1 (fun r2p => some (AEnd.pan r2p, p1.2)) fun r2 =>
  condV r2 (
    some (AEnd.ret (AV.copy (.bool true)), p1.2)) (
    (bin .geq x0 (.int .i32 48)).bind fun v3 =>
    condV v3 (
      (bin .leq x0 (.int .i32 57)).bind fun v4 =>
      condV v4 (
        some (AEnd.ret (AV.copy (.bool true)), p1.2)) (
        (bin .eql x0 (.int .i32 46)).bind fun v5 =>
        some (AEnd.ret (AV.copy v5), p1.2))) (
      (bin .eql x0 (.int .i32 46)).bind fun v6 =>
      some (AEnd.ret (AV.copy v6), p1.2))) := (hJ _ _ _ (by kernel_rfl)).trans (by kernel_rfl)
/-! ### slices.IndexFunc[[]warrantor/api.Spot,warrantor/api.Spot]: function 159 -/
noncomputable def slices_IndexFunc_api_Spot_api_Spot.A : FAnn := { nv := 6, mv := [(5, 0)], ld := [], lst := [], obj := [], q := [], raw := [] }
noncomputable def slices_IndexFunc_api_Spot_api_Spot.an : Ann := .mk none .nil (.mk none (.mk none .nil (.mk none (.mk none (.mk (some [(0, 0), (1, 0), (7, 0), (8, 0)]) .nil .nil) .nil) .nil)) .nil)
noncomputable abbrev slices_IndexFunc_api_Spot_api_Spot.c : Code := Tryz.f159.body.getD .skip
noncomputable def slices_IndexFunc_api_Spot_api_Spot.J (call : Cl) (n : Nat) : Jn (AEnd × H) := realJ Tryz.prog slices_IndexFunc_api_Spot_api_Spot.A call Tryz.f159 slices_IndexFunc_api_Spot_api_Spot.an slices_IndexFunc_api_Spot_api_Spot.c n
abbrev slices_IndexFunc_api_Spot_api_Spot.F (call : Cl) (n : Nat) (J : Jn (AEnd × H)) : Prop := JFix Tryz.prog slices_IndexFunc_api_Spot_api_Spot.A call Tryz.f159 slices_IndexFunc_api_Spot_api_Spot.an slices_IndexFunc_api_Spot_api_Spot.c n J
def slices_IndexFunc_api_Spot_api_Spot.f (J : Jn (AEnd × H)) (x0 x1 : AV) (h : H) : Option (AEnd × H) := J [] [] ⟨[(0, x0), (1, x1)], [], [], h⟩
def slices_IndexFunc_api_Spot_api_Spot.l0 (J : Jn (AEnd × H)) (m0 : Nat) (x0 x1 x7 x8 : AV) (h : H) : Option (AEnd × H) := J [1, 0, 1, 0] [m0] ⟨[(0, x0), (1, x1), (7, x7), (8, x8)], [(0, 0), (1, 0), (7, 0), (8, 0)], [], h⟩
theorem slices_IndexFunc_api_Spot_api_Spot.f_eq {call : Cl} {n : Nat} {J : Jn (AEnd × H)} (hJ : slices_IndexFunc_api_Spot_api_Spot.F call n J) (x0 x1 : AV) (h : H) : slices_IndexFunc_api_Spot_api_Spot.f J x0 x1 h =
  (lnSl x0).bind fun v1 =>
  slices_IndexFunc_api_Spot_api_Spot.l0 J n x0 x1 v1 (.int .i64 0) h := (hJ _ _ _ (by kernel_rfl)).trans (by kernel_rfl)
theorem slices_IndexFunc_api_Spot_api_Spot.l0_eq {call : Cl} {n : Nat} {J : Jn (AEnd × H)} (hJ : slices_IndexFunc_api_Spot_api_Spot.F call n J) (m0 : Nat) (x0 x1 x7 x8 : AV) (h : H) : slices_IndexFunc_api_Spot_api_Spot.l0 J (m0 + 1) x0 x1 x7 x8 h =
  (bin .lss x8 x7).bind fun v2 =>
  condV v2 (
    (ixSlice 3 x0 x8).bind fun v3 =>
    (ldAgg 3 h v3).bind fun v4 =>
    (callVal call h x1 [AV.canon v4]).bind fun p5 => retOr p5.1 (fun r6p => some (AEnd.pan r6p, p5.2)) fun r6 =>
    condV r6 (
      some (AEnd.ret (AV.copy x8), p5.2)) (
      (bin .add x8 (.int .i64 1)).bind fun v7 =>
      slices_IndexFunc_api_Spot_api_Spot.l0 J m0 x0 x1 x7 v7 p5.2)) (
    some (AEnd.ret (.int .i64 (-1)), h)) := (hJ _ _ _ (by kernel_rfl)).trans (by kernel_rfl)
/-! ### warrantor/prog.path: function 160 -/
noncomputable def prog_path.A : FAnn := { nv := 2, mv := [(1, 7)], ld := [], lst := [], obj := [], q := [], raw := [] }
noncomputable def prog_path.an : Ann := .nil
noncomputable abbrev prog_path.c : Code := Tryz.f160.body.getD .skip
noncomputable def prog_path.J (call : Cl) (n : Nat) : Jn (AEnd × H) := realJ Tryz.prog prog_path.A call Tryz.f160 prog_path.an prog_path.c n
abbrev prog_path.F (call : Cl) (n : Nat) (J : Jn (AEnd × H)) : Prop := JFix Tryz.prog prog_path.A call Tryz.f160 prog_path.an prog_path.c n J
def prog_path.f (J : Jn (AEnd × H)) (x0 : AV) (h : H) : Option (AEnd × H) := J [] [] ⟨[(0, x0)], [], [], h⟩
theorem prog_path.f_eq {call : Cl} {n : Nat} {J : Jn (AEnd × H)} (hJ : prog_path.F call n J) (x0 : AV) (h : H) : prog_path.f J x0 h =
  (call n_prog_plain [AV.canon x0] h).bind fun p1 => retOr p1.1 (fun r2p => some (AEnd.pan r2p, p1.2)) fun r2 =>
  condV r2 (
    some (AEnd.ret (AV.copy (.bool true)), p1.2)) (
    (bin .eql x0 (.int .i32 45)).bind fun v3 =>
    condV v3 (
      some (AEnd.ret (AV.copy (.bool true)), p1.2)) (
      (bin .eql x0 (.int .i32 47)).bind fun v4 =>
      some (AEnd.ret (AV.copy v4), p1.2))) := (hJ _ _ _ (by kernel_rfl)).trans (by kernel_rfl)
/-! ### slices.IndexFunc[[]warrantor/api.Edge,warrantor/api.Edge]: function 161 -/
noncomputable def slices_IndexFunc_api_Edge_api_Edge.A : FAnn := { nv := 6, mv := [(5, 0)], ld := [], lst := [], obj := [], q := [], raw := [] }
noncomputable def slices_IndexFunc_api_Edge_api_Edge.an : Ann := .mk none .nil (.mk none (.mk none .nil (.mk none (.mk none (.mk (some [(0, 0), (1, 0), (7, 0), (8, 0)]) .nil .nil) .nil) .nil)) .nil)
noncomputable abbrev slices_IndexFunc_api_Edge_api_Edge.c : Code := Tryz.f161.body.getD .skip
noncomputable def slices_IndexFunc_api_Edge_api_Edge.J (call : Cl) (n : Nat) : Jn (AEnd × H) := realJ Tryz.prog slices_IndexFunc_api_Edge_api_Edge.A call Tryz.f161 slices_IndexFunc_api_Edge_api_Edge.an slices_IndexFunc_api_Edge_api_Edge.c n
abbrev slices_IndexFunc_api_Edge_api_Edge.F (call : Cl) (n : Nat) (J : Jn (AEnd × H)) : Prop := JFix Tryz.prog slices_IndexFunc_api_Edge_api_Edge.A call Tryz.f161 slices_IndexFunc_api_Edge_api_Edge.an slices_IndexFunc_api_Edge_api_Edge.c n J
def slices_IndexFunc_api_Edge_api_Edge.f (J : Jn (AEnd × H)) (x0 x1 : AV) (h : H) : Option (AEnd × H) := J [] [] ⟨[(0, x0), (1, x1)], [], [], h⟩
def slices_IndexFunc_api_Edge_api_Edge.l0 (J : Jn (AEnd × H)) (m0 : Nat) (x0 x1 x7 x8 : AV) (h : H) : Option (AEnd × H) := J [1, 0, 1, 0] [m0] ⟨[(0, x0), (1, x1), (7, x7), (8, x8)], [(0, 0), (1, 0), (7, 0), (8, 0)], [], h⟩
theorem slices_IndexFunc_api_Edge_api_Edge.f_eq {call : Cl} {n : Nat} {J : Jn (AEnd × H)} (hJ : slices_IndexFunc_api_Edge_api_Edge.F call n J) (x0 x1 : AV) (h : H) : slices_IndexFunc_api_Edge_api_Edge.f J x0 x1 h =
  (lnSl x0).bind fun v1 =>
  slices_IndexFunc_api_Edge_api_Edge.l0 J n x0 x1 v1 (.int .i64 0) h := (hJ _ _ _ (by kernel_rfl)).trans (by kernel_rfl)
theorem slices_IndexFunc_api_Edge_api_Edge.l0_eq {call : Cl} {n : Nat} {J : Jn (AEnd × H)} (hJ : slices_IndexFunc_api_Edge_api_Edge.F call n J) (m0 : Nat) (x0 x1 x7 x8 : AV) (h : H) : slices_IndexFunc_api_Edge_api_Edge.l0 J (m0 + 1) x0 x1 x7 x8 h =
  (bin .lss x8 x7).bind fun v2 =>
  condV v2 (
    (ixSlice 7 x0 x8).bind fun v3 =>
    (ldAgg 7 h v3).bind fun v4 =>
    (callVal call h x1 [AV.canon v4]).bind fun p5 => retOr p5.1 (fun r6p => some (AEnd.pan r6p, p5.2)) fun r6 =>
    condV r6 (
      some (AEnd.ret (AV.copy x8), p5.2)) (
      (bin .add x8 (.int .i64 1)).bind fun v7 =>
      slices_IndexFunc_api_Edge_api_Edge.l0 J m0 x0 x1 x7 v7 p5.2)) (
    some (AEnd.ret (.int .i64 (-1)), h)) := (hJ _ _ _ (by kernel_rfl)).trans (by kernel_rfl)
/-! ### warrantor/result.note$1: function 162 -/
noncomputable def result_note_c1.A : FAnn := { nv := 2, mv := [(1, 3)], ld := [], lst := [], obj := [], q := [], raw := [] }
noncomputable def result_note_c1.an : Ann := .nil
noncomputable abbrev result_note_c1.c : Code := Tryz.f162.body.getD .skip
noncomputable def result_note_c1.J (call : Cl) (n : Nat) : Jn (AEnd × H) := realJ Tryz.prog result_note_c1.A call Tryz.f162 result_note_c1.an result_note_c1.c n
abbrev result_note_c1.F (call : Cl) (n : Nat) (J : Jn (AEnd × H)) : Prop := JFix Tryz.prog result_note_c1.A call Tryz.f162 result_note_c1.an result_note_c1.c n J
def result_note_c1.f (J : Jn (AEnd × H)) (x0 : AV) (h : H) : Option (AEnd × H) := J [] [] ⟨[(0, x0)], [], [], h⟩
theorem result_note_c1.f_eq {call : Cl} {n : Nat} {J : Jn (AEnd × H)} (hJ : result_note_c1.F call n J) (x0 : AV) (h : H) : result_note_c1.f J x0 h =
  (bin .lss x0 (.int .i32 32)).bind fun v1 =>
  condV v1 (
    some (AEnd.ret (AV.copy (.bool true)), h)) (
    (bin .gtr x0 (.int .i32 126)).bind fun v2 =>
    some (AEnd.ret (AV.copy v2), h)) := (hJ _ _ _ (by kernel_rfl)).trans (by kernel_rfl)
/-! ### warrantor/leb.Get: function 163 -/
noncomputable def leb_Get.A : FAnn := { nv := 8, mv := [(2, 0), (7, 0), (8, 0), (9, 0), (9, 1)], ld := [], lst := [], obj := [], q := [], raw := [] }
noncomputable def leb_Get.an : Ann := .mk none .nil (.mk none .nil (.mk none (.mk none .nil (.mk none (.mk none (.mk (some [(5, 0), (8, 0), (9, 0), (10, 0)]) .nil (.mk none .nil (.mk none (.mk none (.mk none .nil (.mk none (.mk none .nil (.mk (some [(5, 0), (6, 0), (7, 0), (8, 0), (9, 0), (10, 0), (28, 0)]) .nil .nil)) (.mk (some [(5, 0), (6, 0), (7, 0), (8, 0), (9, 0), (10, 0)]) .nil .nil))) .nil) .nil))) .nil) .nil)) .nil))
noncomputable abbrev leb_Get.c : Code := Tryz.f163.body.getD .skip
noncomputable def leb_Get.J (call : Cl) (n : Nat) : Jn (AEnd × H) := realJ Tryz.prog leb_Get.A call Tryz.f163 leb_Get.an leb_Get.c n
abbrev leb_Get.F (call : Cl) (n : Nat) (J : Jn (AEnd × H)) : Prop := JFix Tryz.prog leb_Get.A call Tryz.f163 leb_Get.an leb_Get.c n J
def leb_Get.f (J : Jn (AEnd × H)) (x0 : AV) (h : H) : Option (AEnd × H) := J [] [] ⟨[(0, x0)], [], [], h⟩
def leb_Get.l0 (J : Jn (AEnd × H)) (m0 : Nat) (x5 x8 x9 x10 : AV) (h : H) : Option (AEnd × H) := J [1, 1, 0, 1, 0] [m0] ⟨[(5, x5), (8, x8), (9, x9), (10, x10)], [(5, 0), (8, 0), (9, 0), (10, 0)], [], h⟩
def leb_Get.j1 (J : Jn (AEnd × H)) (m0 : Nat) (x5 x6 x7 x8 x9 x10 x28 : AV) (h : H) : Option (AEnd × H) := J [1, 1, 0, 1, 0, 0, 1, 1, 0, 0, 1, 0, 1] [m0] ⟨[(5, x5), (6, x6), (7, x7), (8, x8), (9, x9), (10, x10), (28, x28)], [(5, 0), (6, 0), (7, 0), (8, 0), (9, 0), (10, 0), (28, 0)], [], h⟩
def leb_Get.j0 (J : Jn (AEnd × H)) (m0 : Nat) (x5 x6 x7 x8 x9 x10 : AV) (h : H) : Option (AEnd × H) := J [1, 1, 0, 1, 0, 0, 1, 1, 0, 0, 1, 1] [m0] ⟨[(5, x5), (6, x6), (7, x7), (8, x8), (9, x9), (10, x10)], [(5, 0), (6, 0), (7, 0), (8, 0), (9, 0), (10, 0)], [], h⟩
theorem leb_Get.f_eq {call : Cl} {n : Nat} {J : Jn (AEnd × H)} (hJ : leb_Get.F call n J) (x0 : AV) (h : H) : leb_Get.f J x0 h =
  (lnSl x0).bind fun v1 =>
  leb_Get.l0 J n (.int .u64 0) x0 v1 (.int .i64 0) h := (hJ _ _ _ (by kernel_rfl)).trans (by kernel_rfl)
theorem leb_Get.l0_eq {call : Cl} {n : Nat} {J : Jn (AEnd × H)} (hJ : leb_Get.F call n J) (m0 : Nat) (x5 x8 x9 x10 : AV) (h : H) : leb_Get.l0 J (m0 + 1) x5 x8 x9 x10 h =
  (bin .lss x10 x9).bind fun v2 =>
  condV v2 (
    (ixSlice 1 x8 x10).bind fun v3 =>
    (ldCell h v3).bind fun v4 =>
    (bin .eql x10 (.int .i64 9)).bind fun v5 =>
    condV v5 (
      (bin .gtr v4 (.int .u8 1)).bind fun v6 =>
      condV v6 (
        leb_Get.j1 J m0 x5 x10 v4 x8 x9 x10 (.bool true) h) (
        (bin .gtr x10 (.int .i64 0)).bind fun v7 =>
        condV v7 (
          (bin .eql v4 (.int .u8 0)).bind fun v8 =>
          leb_Get.j1 J m0 x5 x10 v4 x8 x9 x10 v8 h) (
          leb_Get.j1 J m0 x5 x10 v4 x8 x9 x10 (.bool false) h))) (
      (bin .gtr x10 (.int .i64 0)).bind fun v9 =>
      condV v9 (
        (bin .eql v4 (.int .u8 0)).bind fun v10 =>
        leb_Get.j1 J m0 x5 x10 v4 x8 x9 x10 v10 h) (
        leb_Get.j1 J m0 x5 x10 v4 x8 x9 x10 (.bool false) h))) (
    some (AEnd.ret (.tuple [(.int .u64 0), (.int .i64 0), (.int .i64 10)]), h)) := (hJ _ _ _ (by kernel_rfl)).trans (by kernel_rfl)
theorem leb_Get.j1_eq {call : Cl} {n : Nat} {J : Jn (AEnd × H)} (hJ : leb_Get.F call n J) (m0 : Nat) (x5 x6 x7 x8 x9 x10 x28 : AV) (h : H) : leb_Get.j1 J m0 x5 x6 x7 x8 x9 x10 x28 h =
  condV x28 (
    some (AEnd.ret (.tuple [(.int .u64 0), (.int .i64 0), (.int .i64 11)]), h)) (
    leb_Get.j0 J m0 x5 x6 x7 x8 x9 x10 h) := (hJ _ _ _ (by kernel_rfl)).trans (by kernel_rfl)
theorem leb_Get.j0_eq {call : Cl} {n : Nat} {J : Jn (AEnd × H)} (hJ : leb_Get.F call n J) (m0 : Nat) (x5 x6 x7 x8 x9 x10 : AV) (h : H) : leb_Get.j0 J m0 x5 x6 x7 x8 x9 x10 h =
  (bin .andNot x7 (.int .u8 128)).bind fun v11 =>
  (cvInt .u64 v11).bind fun v12 =>
  (bin .mul (.int .i64 7) x6).bind fun v13 =>
  (bin .shl v12 v13).bind fun v14 =>
  (bin .or x5 v14).bind fun v15 =>
  (bin .lss x7 (.int .u8 128)).bind fun v16 =>
  condV v16 (
    (bin .add x6 (.int .i64 1)).bind fun v17 =>
    some (AEnd.ret (.tuple [(AV.copy v15), (AV.copy v17), (.int .i64 0)]), h)) (
    (bin .add x10 (.int .i64 1)).bind fun v18 =>
    leb_Get.l0 J m0 v15 x8 x9 v18 h) := (hJ _ _ _ (by kernel_rfl)).trans (by kernel_rfl)
/-! ### warrantor/cur.ask[int]: function 164 -/
noncomputable def cur_ask_int.A : FAnn := { nv := 6, mv := [(5, 0)], ld := [], lst := [], obj := [], q := [], raw := [], df := [(176, { nv := 6, mv := [(1, 0), (3, 2)], ld := [], raw := [] })] }
noncomputable def cur_ask_int.an : Ann := .mk none .nil (.mk none (.mk none .nil (.mk (some [(1, 0), (2, 0), (4, 0), (14, 0)]) .nil .nil)) (.mk (some [(1, 0), (2, 0), (4, 0)]) .nil .nil))
noncomputable abbrev cur_ask_int.c : Code := Tryz.f164.body.getD .skip
noncomputable abbrev cur_ask_int.dc (call : Cl) (n : Nat) := dcall Tryz.prog cur_ask_int.A call n
theorem cur_ask_int.d176_eq {call : Cl} {n : Nat} (x0 x1 x2 : AV) (h : H) (v : AV) : cur_ask_int.dc call n n_cur_ask_int__c1 [x0, x1, x2] h v =
  (taTo (.agg [.int .i64 0]) t_cur_broken true v).bind fun v1 =>
  (exTuple 0 v1).bind fun v2 =>
  (exTuple 1 v1).bind fun v3 =>
  let h4 : H := h ++ [.arr [.int .i64 0] false]
  (stN 1 h4 (.ptr h.length 0) (AV.copy v2)).bind fun p5 =>
  condV v3 (
    (ldCell p5.2 x2).bind fun v6 =>
    (ldCell p5.2 x2).bind fun v7 =>
    (ldCell p5.2 x0).bind fun v8 =>
    (fAddr 0 (.ptr h.length 0)).bind fun v9 =>
    (ldCell p5.2 v9).bind fun v10 =>
    (stN 1 p5.2 x1 (.int .i64 0)).bind fun p11 =>
    whenB (eqO (ldCell p11.2 v9) v10) (
      (nilOk v6).bind fun v12 =>
      (fAddr 1 v12).bind fun v13 =>
      (stN 1 p11.2 v13 (AV.copy v8)).bind fun p14 =>
      whenB (eqO (ldCell p14.2 v9) v10) (
        (nilOk v7).bind fun v15 =>
        (fAddr 2 v15).bind fun v16 =>
        (stN 1 p14.2 v16 (AV.copy v10)).bind fun p17 =>
        some p17.2))) (
    some p5.2) := (dcall_eq (P := Tryz.prog) (A := cur_ask_int.A) (f := 176) (d := { nv := 6, mv := [(1, 0), (3, 2)], ld := [], raw := [] }) (c := Tryz.f176.body.getD .skip) (args := [x0, x1, x2]) (by kernel_rfl) Tryz.func176 (by kernel_rfl) (by kernel_rfl)).trans (by kernel_rfl)
noncomputable def cur_ask_int.J (call : Cl) (n : Nat) : Jn (AEnd × H) := realJ Tryz.prog cur_ask_int.A call Tryz.f164 cur_ask_int.an cur_ask_int.c n
abbrev cur_ask_int.F (call : Cl) (n : Nat) (J : Jn (AEnd × H)) : Prop := JFix Tryz.prog cur_ask_int.A call Tryz.f164 cur_ask_int.an cur_ask_int.c n J
def cur_ask_int.f (J : Jn (AEnd × H)) (x0 x1 : AV) (h : H) : Option (AEnd × H) := J [] [] ⟨[(0, x0), (1, x1)], [], [], h⟩
def cur_ask_int.j1 (J : Jn (AEnd × H)) (x1 x2 x4 x14 : AV) (h : H) : Option (AEnd × H) := J [1, 0, 1] [] ⟨[(1, x1), (2, x2), (4, x4), (14, x14)], [(1, 0), (2, 0), (4, 0), (14, 0)], [], h⟩
def cur_ask_int.j0 (J : Jn (AEnd × H)) (x1 x2 x4 : AV) (h : H) : Option (AEnd × H) := J [1, 1] [] ⟨[(1, x1), (2, x2), (4, x4)], [(1, 0), (2, 0), (4, 0)], [], h⟩
theorem cur_ask_int.f_eq {call : Cl} {n : Nat} {J : Jn (AEnd × H)} (hJ : cur_ask_int.F call n J) (x0 x1 : AV) (h : H) : cur_ask_int.f J x0 x1 h =
  (bx h (AV.copy x0)).bind fun p1 =>
  let h2 : H := p1.2 ++ [.arr [.int .i64 0] false]
  (ldCell h2 p1.1).bind fun v3 =>
  (eqv false (aeq Tryz.prog 20 90 v3 .nilPtr)).bind fun v4 =>
  condV v4 (
    cur_ask_int.j1 J  x1 p1.1 (.ptr p1.2.length 0) (.bool true) h2) (
    (ldCell h2 p1.1).bind fun v5 =>
    (nilOk v5).bind fun v6 =>
    (fAddr 2 v6).bind fun v7 =>
    (ldCell h2 v7).bind fun v8 =>
    (bin .neq v8 (.int .i64 0)).bind fun v9 =>
    cur_ask_int.j1 J  x1 p1.1 (.ptr p1.2.length 0) v9 h2) := (hJ _ _ _ (by kernel_rfl)).trans (by kernel_rfl)
theorem cur_ask_int.j1_eq {call : Cl} {n : Nat} {J : Jn (AEnd × H)} (hJ : cur_ask_int.F call n J) (x1 x2 x4 x14 : AV) (h : H) : cur_ask_int.j1 J  x1 x2 x4 x14 h =
  condV x14 (
    (ldCell h x4).bind fun v10 =>
    (stN 1 h x4 (AV.copy v10)).bind fun p11 =>
    (resN [(ldCell p11.2 x4).map AV.copy]).map fun v => (AEnd.ret v, p11.2)) (
    cur_ask_int.j0 J  x1 x2 x4 h) := (hJ _ _ _ (by kernel_rfl)).trans (by kernel_rfl)
theorem cur_ask_int.j0_eq {call : Cl} {n : Nat} {J : Jn (AEnd × H)} (hJ : cur_ask_int.F call n J) (x1 x2 x4 : AV) (h : H) : cur_ask_int.j0 J  x1 x2 x4 h =
  (ldCell h x2).bind fun v12 =>
  (nilOk v12).bind fun v13 =>
  (fAddr 1 v13).bind fun v14 =>
  (ldCell h v14).bind fun v15 =>
  let h16 : H := h ++ [.arr [.int .i64 0] false]
  (stN 1 h16 (.ptr h.length 0) (AV.copy v15)).bind fun p17 =>
  (ldCell p17.2 x2).bind fun v18 =>
  (callVal call p17.2 x1 [AV.canon v18]).bind fun p19 => retOr p19.1 (fun r20p => (cur_ask_int.dc call n n_cur_ask_int__c1 [AV.copy (.ptr h.length 0), AV.copy x4, AV.copy x2] p19.2 r20p).bind fun h23 =>
  (resN [(ldCell h23 x4).map AV.copy]).map fun v => (AEnd.ret v, h23)) fun r20 =>
  (stN 1 p19.2 x4 r20).bind fun p21 =>
  (cur_ask_int.dc call n n_cur_ask_int__c1 [AV.copy (.ptr h.length 0), AV.copy x4, AV.copy x2] p21.2 .nilIface).bind fun h22 =>
  (resN [(ldCell h22 x4).map AV.copy]).map fun v => (AEnd.ret v, h22) := (hJ _ _ _ (by kernel_rfl)).trans (by kernel_rfl)
/-! ### (*warrantor/cur.Reader).Count$1: function 165 -/
noncomputable def cur_Reader_Count_c1.A : FAnn := { nv := 3, mv := [(1, 0)], ld := [], lst := [], obj := [], q := [], raw := [] }
noncomputable def cur_Reader_Count_c1.an : Ann := .nil
noncomputable abbrev cur_Reader_Count_c1.c : Code := Tryz.f165.body.getD .skip
noncomputable def cur_Reader_Count_c1.J (call : Cl) (n : Nat) : Jn (AEnd × H) := realJ Tryz.prog cur_Reader_Count_c1.A call Tryz.f165 cur_Reader_Count_c1.an cur_Reader_Count_c1.c n
abbrev cur_Reader_Count_c1.F (call : Cl) (n : Nat) (J : Jn (AEnd × H)) : Prop := JFix Tryz.prog cur_Reader_Count_c1.A call Tryz.f165 cur_Reader_Count_c1.an cur_Reader_Count_c1.c n J
def cur_Reader_Count_c1.f (J : Jn (AEnd × H)) (x0 x1 : AV) (h : H) : Option (AEnd × H) := J [] [] ⟨[(0, x0), (1, x1)], [], [], h⟩
theorem cur_Reader_Count_c1.f_eq {call : Cl} {n : Nat} {J : Jn (AEnd × H)} (hJ : cur_Reader_Count_c1.F call n J) (x0 x1 : AV) (h : H) : cur_Reader_Count_c1.f J x0 x1 h =
  (ldCell h x1).bind fun v1 =>
  (call n_cur_Reader_upto [AV.canon x0, AV.canon v1] h).bind fun p2 => retOr p2.1 (fun r3p => some (AEnd.pan r3p, p2.2)) fun r3 =>
  some (AEnd.ret r3, p2.2) := (hJ _ _ _ (by kernel_rfl)).trans (by kernel_rfl)
/-! ### (*warrantor/cur.Reader).Left: function 166 -/
noncomputable def cur_Reader_Left.A : FAnn := { nv := 2, mv := [(3, 5)], ld := [], lst := [], obj := [], q := [], raw := [] }
noncomputable def cur_Reader_Left.an : Ann := .mk none .nil (.mk none (.mk none .nil (.mk (some [(0, 0), (11, 0)]) .nil .nil)) (.mk (some [(0, 0)]) .nil .nil))
noncomputable abbrev cur_Reader_Left.c : Code := Tryz.f166.body.getD .skip
noncomputable def cur_Reader_Left.J (call : Cl) (n : Nat) : Jn (AEnd × H) := realJ Tryz.prog cur_Reader_Left.A call Tryz.f166 cur_Reader_Left.an cur_Reader_Left.c n
abbrev cur_Reader_Left.F (call : Cl) (n : Nat) (J : Jn (AEnd × H)) : Prop := JFix Tryz.prog cur_Reader_Left.A call Tryz.f166 cur_Reader_Left.an cur_Reader_Left.c n J
def cur_Reader_Left.f (J : Jn (AEnd × H)) (x0 : AV) (h : H) : Option (AEnd × H) := J [] [] ⟨[(0, x0)], [], [], h⟩
def cur_Reader_Left.j1 (J : Jn (AEnd × H)) (x0 x11 : AV) (h : H) : Option (AEnd × H) := J [1, 0, 1] [] ⟨[(0, x0), (11, x11)], [(0, 0), (11, 0)], [], h⟩
def cur_Reader_Left.j0 (J : Jn (AEnd × H)) (x0 : AV) (h : H) : Option (AEnd × H) := J [1, 1] [] ⟨[(0, x0)], [(0, 0)], [], h⟩
theorem cur_Reader_Left.f_eq {call : Cl} {n : Nat} {J : Jn (AEnd × H)} (hJ : cur_Reader_Left.F call n J) (x0 : AV) (h : H) : cur_Reader_Left.f J x0 h =
  (eqv false (aeq Tryz.prog 20 90 x0 .nilPtr)).bind fun v1 =>
  condV v1 (
    cur_Reader_Left.j1 J  x0 (.bool true) h) (
    (nilOk x0).bind fun v2 =>
    (fAddr 2 v2).bind fun v3 =>
    (ldCell h v3).bind fun v4 =>
    (bin .neq v4 (.int .i64 0)).bind fun v5 =>
    cur_Reader_Left.j1 J  x0 v5 h) := (hJ _ _ _ (by kernel_rfl)).trans (by kernel_rfl)
theorem cur_Reader_Left.j1_eq {call : Cl} {n : Nat} {J : Jn (AEnd × H)} (hJ : cur_Reader_Left.F call n J) (x0 x11 : AV) (h : H) : cur_Reader_Left.j1 J  x0 x11 h =
  condV x11 (
    some (AEnd.ret (.int .i64 0), h)) (
    cur_Reader_Left.j0 J  x0 h) := (hJ _ _ _ (by kernel_rfl)).trans (by kernel_rfl)
theorem cur_Reader_Left.j0_eq {call : Cl} {n : Nat} {J : Jn (AEnd × H)} (hJ : cur_Reader_Left.F call n J) (x0 : AV) (h : H) : cur_Reader_Left.j0 J  x0 h =
  (nilOk x0).bind fun v6 =>
  (fAddr 0 v6).bind fun v7 =>
  (ldCell h v7).bind fun v8 =>
  (lnSl v8).bind fun v9 =>
  (nilOk x0).bind fun v10 =>
  (fAddr 1 v10).bind fun v11 =>
  (ldCell h v11).bind fun v12 =>
  (bin .sub v9 v12).bind fun v13 =>
  some (AEnd.ret (AV.copy v13), h) := (hJ _ _ _ (by kernel_rfl)).trans (by kernel_rfl)
/-! ### (*warrantor/cur.Reader).Fail: function 167 -/
noncomputable def cur_Reader_Fail.A : FAnn := { nv := 4, mv := [(3, 0), (3, 1)], ld := [], lst := [], obj := [], q := [], raw := [] }
noncomputable def cur_Reader_Fail.an : Ann := .mk none .nil (.mk (some [(0, 0), (1, 0)]) .nil (.mk (some [(0, 0), (1, 0), (14, 0)]) .nil .nil))
noncomputable abbrev cur_Reader_Fail.c : Code := Tryz.f167.body.getD .skip
noncomputable def cur_Reader_Fail.J (call : Cl) (n : Nat) : Jn (AEnd × H) := realJ Tryz.prog cur_Reader_Fail.A call Tryz.f167 cur_Reader_Fail.an cur_Reader_Fail.c n
abbrev cur_Reader_Fail.F (call : Cl) (n : Nat) (J : Jn (AEnd × H)) : Prop := JFix Tryz.prog cur_Reader_Fail.A call Tryz.f167 cur_Reader_Fail.an cur_Reader_Fail.c n J
def cur_Reader_Fail.f (J : Jn (AEnd × H)) (x0 x1 : AV) (h : H) : Option (AEnd × H) := J [] [] ⟨[(0, x0), (1, x1)], [], [], h⟩
def cur_Reader_Fail.j0 (J : Jn (AEnd × H)) (x0 x1 : AV) (h : H) : Option (AEnd × H) := J [1] [] ⟨[(0, x0), (1, x1)], [(0, 0), (1, 0)], [], h⟩
def cur_Reader_Fail.j1 (J : Jn (AEnd × H)) (x0 x1 x14 : AV) (h : H) : Option (AEnd × H) := J [1, 1] [] ⟨[(0, x0), (1, x1), (14, x14)], [(0, 0), (1, 0), (14, 0)], [], h⟩
theorem cur_Reader_Fail.f_eq {call : Cl} {n : Nat} {J : Jn (AEnd × H)} (hJ : cur_Reader_Fail.F call n J) (x0 x1 : AV) (h : H) : cur_Reader_Fail.f J x0 x1 h =
  (bin .eql x1 (.int .i64 0)).bind fun v1 =>
  condV v1 (
    cur_Reader_Fail.j0 J  x0 (.int .i64 1) h) (
    cur_Reader_Fail.j0 J  x0 x1 h) := (hJ _ _ _ (by kernel_rfl)).trans (by kernel_rfl)
theorem cur_Reader_Fail.j0_eq {call : Cl} {n : Nat} {J : Jn (AEnd × H)} (hJ : cur_Reader_Fail.F call n J) (x0 x1 : AV) (h : H) : cur_Reader_Fail.j0 J  x0 x1 h =
  (eqv true (aeq Tryz.prog 20 90 x0 .nilPtr)).bind fun v2 =>
  condV v2 (
    (nilOk x0).bind fun v3 =>
    (fAddr 2 v3).bind fun v4 =>
    (ldCell h v4).bind fun v5 =>
    (bin .eql v5 (.int .i64 0)).bind fun v6 =>
    cur_Reader_Fail.j1 J  x0 x1 v6 h) (
    cur_Reader_Fail.j1 J  x0 x1 (.bool false) h) := (hJ _ _ _ (by kernel_rfl)).trans (by kernel_rfl)
theorem cur_Reader_Fail.j1_eq {call : Cl} {n : Nat} {J : Jn (AEnd × H)} (hJ : cur_Reader_Fail.F call n J) (x0 x1 x14 : AV) (h : H) : cur_Reader_Fail.j1 J  x0 x1 x14 h =
  condV x14 (
    (nilOk x0).bind fun v7 =>
    (fAddr 2 v7).bind fun v8 =>
    (stN 1 h v8 (AV.copy x1)).bind fun p9 =>
    some (AEnd.ret (.tuple []), p9.2)) (
    some (AEnd.ret (.tuple []), h)) := (hJ _ _ _ (by kernel_rfl)).trans (by kernel_rfl)
/-! ### warrantor/warrantorref03.bit: function 168 -/
noncomputable def warrantorref03_bit.A : FAnn := { nv := 6, mv := [(1, 2), (2, 0), (3, 0), (4, 0), (5, 0)], ld := [], lst := [], obj := [], q := [], raw := [] }
noncomputable def warrantorref03_bit.an : Ann := .nil
noncomputable abbrev warrantorref03_bit.c : Code := Tryz.f168.body.getD .skip
noncomputable def warrantorref03_bit.J (call : Cl) (n : Nat) : Jn (AEnd × H) := realJ Tryz.prog warrantorref03_bit.A call Tryz.f168 warrantorref03_bit.an warrantorref03_bit.c n
abbrev warrantorref03_bit.F (call : Cl) (n : Nat) (J : Jn (AEnd × H)) : Prop := JFix Tryz.prog warrantorref03_bit.A call Tryz.f168 warrantorref03_bit.an warrantorref03_bit.c n J
def warrantorref03_bit.f (J : Jn (AEnd × H)) (x0 x1 : AV) (h : H) : Option (AEnd × H) := J [] [] ⟨[(0, x0), (1, x1)], [], [], h⟩
theorem warrantorref03_bit.f_eq {call : Cl} {n : Nat} {J : Jn (AEnd × H)} (hJ : warrantorref03_bit.F call n J) (x0 x1 : AV) (h : H) : warrantorref03_bit.f J x0 x1 h =
  (bin .rem x0 (.int .u32 2)).bind fun v1 =>
  (bin .rem x1 (.int .u32 2)).bind fun v2 =>
  (bin .neq v1 v2).bind fun v3 =>
  (bin .quo x0 (.int .u32 2)).bind fun v4 =>
  condV v3 (
    (bin .xor v4 (.int .u32 2197175160)).bind fun v5 =>
    some (AEnd.ret (AV.copy v5), h)) (
    some (AEnd.ret (AV.copy v4), h)) := (hJ _ _ _ (by kernel_rfl)).trans (by kernel_rfl)
/-! ### strings.indexFunc: function 169 -/
noncomputable def strings_indexFunc.A : FAnn := { nv := 9, mv := [(1, 0), (4, 1), (5, 0)], ld := [], lst := [], obj := [], q := [], raw := [] }
noncomputable def strings_indexFunc.an : Ann := .mk none .nil (.mk none (.mk none .nil (.mk none (.mk none (.mk (some [(1, 0), (2, 0), (10, 0)]) .nil .nil) .nil) .nil)) .nil)
noncomputable abbrev strings_indexFunc.c : Code := Tryz.f169.body.getD .skip
noncomputable def strings_indexFunc.J (call : Cl) (n : Nat) : Jn (AEnd × H) := realJ Tryz.prog strings_indexFunc.A call Tryz.f169 strings_indexFunc.an strings_indexFunc.c n
abbrev strings_indexFunc.F (call : Cl) (n : Nat) (J : Jn (AEnd × H)) : Prop := JFix Tryz.prog strings_indexFunc.A call Tryz.f169 strings_indexFunc.an strings_indexFunc.c n J
def strings_indexFunc.f (J : Jn (AEnd × H)) (x0 x1 x2 : AV) (h : H) : Option (AEnd × H) := J [] [] ⟨[(0, x0), (1, x1), (2, x2)], [], [], h⟩
def strings_indexFunc.l0 (J : Jn (AEnd × H)) (m0 : Nat) (x1 x2 x10 : AV) (h : H) : Option (AEnd × H) := J [1, 0, 1, 0] [m0] ⟨[(1, x1), (2, x2), (10, x10)], [(1, 0), (2, 0), (10, 0)], [], h⟩
theorem strings_indexFunc.f_eq {call : Cl} {n : Nat} {J : Jn (AEnd × H)} (hJ : strings_indexFunc.F call n J) (x0 x1 x2 : AV) (h : H) : strings_indexFunc.f J x0 x1 x2 h =
  (rgStr h x0).bind fun p1 =>
  strings_indexFunc.l0 J n x1 x2 p1.1 p1.2 := (hJ _ _ _ (by kernel_rfl)).trans (by kernel_rfl)
theorem strings_indexFunc.l0_eq {call : Cl} {n : Nat} {J : Jn (AEnd × H)} (hJ : strings_indexFunc.F call n J) (m0 : Nat) (x1 x2 x10 : AV) (h : H) : strings_indexFunc.l0 J (m0 + 1) x1 x2 x10 h =
  (next h x10 true).bind fun p2 =>
  (exTuple 0 p2.1).bind fun v3 =>
  condV v3 (
    (exTuple 1 p2.1).bind fun v4 =>
    (exTuple 2 p2.1).bind fun v5 =>
    (callVal call p2.2 x1 [AV.canon v5]).bind fun p6 => retOr p6.1 (fun r7p => some (AEnd.pan r7p, p6.2)) fun r7 =>
    (binBool .eql r7 x2).bind fun v8 =>
    condV v8 (
      some (AEnd.ret (AV.copy v4), p6.2)) (
      strings_indexFunc.l0 J m0 x1 x2 x10 p6.2)) (
    some (AEnd.ret (.int .i64 (-1)), p2.2)) := (hJ _ _ _ (by kernel_rfl)).trans (by kernel_rfl)
/-! ### warrantor/prog.kinds$1: function 170 -/
noncomputable def prog_kinds_c1.A : FAnn := { nv := 4, mv := [(1, 7)], ld := [], lst := [], obj := [], q := [], raw := [] }
noncomputable def prog_kinds_c1.an : Ann := .nil
noncomputable abbrev prog_kinds_c1.c : Code := Tryz.f170.body.getD .skip
noncomputable def prog_kinds_c1.J (call : Cl) (n : Nat) : Jn (AEnd × H) := realJ Tryz.prog prog_kinds_c1.A call Tryz.f170 prog_kinds_c1.an prog_kinds_c1.c n
abbrev prog_kinds_c1.F (call : Cl) (n : Nat) (J : Jn (AEnd × H)) : Prop := JFix Tryz.prog prog_kinds_c1.A call Tryz.f170 prog_kinds_c1.an prog_kinds_c1.c n J
def prog_kinds_c1.f (J : Jn (AEnd × H)) (x0 x1 : AV) (h : H) : Option (AEnd × H) := J [] [] ⟨[(0, x0), (1, x1)], [], [], h⟩
theorem prog_kinds_c1.f_eq {call : Cl} {n : Nat} {J : Jn (AEnd × H)} (hJ : prog_kinds_c1.F call n J) (x0 x1 : AV) (h : H) : prog_kinds_c1.f J x0 x1 h =
  (bx h (AV.copy x0)).bind fun p1 =>
  (fAddr 1 p1.1).bind fun v2 =>
  (ldCell p1.2 v2).bind fun v3 =>
  (call n_prog_some [AV.canon v3, AV.canon x1] p1.2).bind fun p4 => retOr p4.1 (fun r5p => some (AEnd.pan r5p, p4.2)) fun r5 =>
  condV r5 (
    (fAddr 2 p1.1).bind fun v6 =>
    (ldCell p4.2 v6).bind fun v7 =>
    (call n_prog_some [AV.canon v7, AV.canon x1] p4.2).bind fun p8 => retOr p8.1 (fun r9p => some (AEnd.pan r9p, p8.2)) fun r9 =>
    condV r9 (
      (fAddr 1 p1.1).bind fun v10 =>
      (ldCell p8.2 v10).bind fun v11 =>
      (fAddr 2 p1.1).bind fun v12 =>
      (ldCell p8.2 v12).bind fun v13 =>
      (bin .neq v11 v13).bind fun v14 =>
      condV v14 (
        (fAddr 3 p1.1).bind fun v15 =>
        (ldCell p8.2 v15).bind fun v16 =>
        (call n_val_Is [AV.canon v16] p8.2).bind fun p17 => retOr p17.1 (fun r18p => some (AEnd.pan r18p, p17.2)) fun r18 =>
        condV r18 (
          (fAddr 4 p1.1).bind fun v19 =>
          (ldCell p17.2 v19).bind fun v20 =>
          (bin .eql v20 (.int .i64 0)).bind fun v21 =>
          some (AEnd.ret (AV.copy v21), p17.2)) (
          some (AEnd.ret (AV.copy (.bool false)), p17.2))) (
        some (AEnd.ret (AV.copy (.bool false)), p8.2))) (
      some (AEnd.ret (AV.copy (.bool false)), p8.2))) (
    some (AEnd.ret (AV.copy (.bool false)), p4.2)) := (hJ _ _ _ (by kernel_rfl)).trans (by kernel_rfl)
/-! ### warrantor/val.Is: function 171 -/
noncomputable def val_Is.A : FAnn := { nv := 2, mv := [(1, 2)], ld := [], lst := [], obj := [], q := [], raw := [] }
noncomputable def val_Is.an : Ann := .nil
noncomputable abbrev val_Is.c : Code := Tryz.f171.body.getD .skip
noncomputable def val_Is.J (call : Cl) (n : Nat) : Jn (AEnd × H) := realJ Tryz.prog val_Is.A call Tryz.f171 val_Is.an val_Is.c n
abbrev val_Is.F (call : Cl) (n : Nat) (J : Jn (AEnd × H)) : Prop := JFix Tryz.prog val_Is.A call Tryz.f171 val_Is.an val_Is.c n J
def val_Is.f (J : Jn (AEnd × H)) (x0 : AV) (h : H) : Option (AEnd × H) := J [] [] ⟨[(0, x0)], [], [], h⟩
theorem val_Is.f_eq {call : Cl} {n : Nat} {J : Jn (AEnd × H)} (hJ : val_Is.F call n J) (x0 : AV) (h : H) : val_Is.f J x0 h =
  (call n_val_Clip [AV.canon x0] h).bind fun p1 => retOr p1.1 (fun r2p => some (AEnd.pan r2p, p1.2)) fun r2 =>
  (bin .eql r2 x0).bind fun v3 =>
  some (AEnd.ret (AV.copy v3), p1.2) := (hJ _ _ _ (by kernel_rfl)).trans (by kernel_rfl)
/-! ### warrantor/prog.kinds$2: function 172 -/
noncomputable def prog_kinds_c2.A : FAnn := { nv := 4, mv := [], ld := [], lst := [], obj := [], q := [], raw := [] }
noncomputable def prog_kinds_c2.an : Ann := .nil
noncomputable abbrev prog_kinds_c2.c : Code := Tryz.f172.body.getD .skip
noncomputable def prog_kinds_c2.J (call : Cl) (n : Nat) : Jn (AEnd × H) := realJ Tryz.prog prog_kinds_c2.A call Tryz.f172 prog_kinds_c2.an prog_kinds_c2.c n
abbrev prog_kinds_c2.F (call : Cl) (n : Nat) (J : Jn (AEnd × H)) : Prop := JFix Tryz.prog prog_kinds_c2.A call Tryz.f172 prog_kinds_c2.an prog_kinds_c2.c n J
def prog_kinds_c2.f (J : Jn (AEnd × H)) (x0 x1 : AV) (h : H) : Option (AEnd × H) := J [] [] ⟨[(0, x0), (1, x1)], [], [], h⟩
theorem prog_kinds_c2.f_eq {call : Cl} {n : Nat} {J : Jn (AEnd × H)} (hJ : prog_kinds_c2.F call n J) (x0 x1 : AV) (h : H) : prog_kinds_c2.f J x0 x1 h =
  (bx h (AV.copy x0)).bind fun p1 =>
  (ldAgg 5 p1.2 p1.1).bind fun v2 =>
  (mkAgg [.int .i64 0, .int .i64 0, .int .i64 0, .int .i64 0, .int .i64 0] [(0, 1, AV.copy (.int .i64 1))]).bind fun v3 =>
  (eqv false (aeq Tryz.prog 20 t_api_Stmt v2 v3)).bind fun v4 =>
  some (AEnd.ret (AV.copy v4), p1.2) := (hJ _ _ _ (by kernel_rfl)).trans (by kernel_rfl)
/-! ### warrantor/prog.kinds$3: function 173 -/
noncomputable def prog_kinds_c3.A : FAnn := { nv := 4, mv := [(1, 7)], ld := [], lst := [], obj := [], q := [], raw := [] }
noncomputable def prog_kinds_c3.an : Ann := .nil
noncomputable abbrev prog_kinds_c3.c : Code := Tryz.f173.body.getD .skip
noncomputable def prog_kinds_c3.J (call : Cl) (n : Nat) : Jn (AEnd × H) := realJ Tryz.prog prog_kinds_c3.A call Tryz.f173 prog_kinds_c3.an prog_kinds_c3.c n
abbrev prog_kinds_c3.F (call : Cl) (n : Nat) (J : Jn (AEnd × H)) : Prop := JFix Tryz.prog prog_kinds_c3.A call Tryz.f173 prog_kinds_c3.an prog_kinds_c3.c n J
def prog_kinds_c3.f (J : Jn (AEnd × H)) (x0 x1 : AV) (h : H) : Option (AEnd × H) := J [] [] ⟨[(0, x0), (1, x1)], [], [], h⟩
theorem prog_kinds_c3.f_eq {call : Cl} {n : Nat} {J : Jn (AEnd × H)} (hJ : prog_kinds_c3.F call n J) (x0 x1 : AV) (h : H) : prog_kinds_c3.f J x0 x1 h =
  (bx h (AV.copy x0)).bind fun p1 =>
  (fAddr 1 p1.1).bind fun v2 =>
  (ldCell p1.2 v2).bind fun v3 =>
  (call n_prog_one [AV.canon v3, AV.canon x1] p1.2).bind fun p4 => retOr p4.1 (fun r5p => some (AEnd.pan r5p, p4.2)) fun r5 =>
  condV r5 (
    (fAddr 2 p1.1).bind fun v6 =>
    (ldCell p4.2 v6).bind fun v7 =>
    (call n_prog_some [AV.canon v7, AV.canon x1] p4.2).bind fun p8 => retOr p8.1 (fun r9p => some (AEnd.pan r9p, p8.2)) fun r9 =>
    condV r9 (
      (fAddr 3 p1.1).bind fun v10 =>
      (ldCell p8.2 v10).bind fun v11 =>
      (call n_val_Is [AV.canon v11] p8.2).bind fun p12 => retOr p12.1 (fun r13p => some (AEnd.pan r13p, p12.2)) fun r13 =>
      condV r13 (
        (fAddr 4 p1.1).bind fun v14 =>
        (ldCell p12.2 v14).bind fun v15 =>
        (bin .eql v15 (.int .i64 0)).bind fun v16 =>
        some (AEnd.ret (AV.copy v16), p12.2)) (
        some (AEnd.ret (AV.copy (.bool false)), p12.2))) (
      some (AEnd.ret (AV.copy (.bool false)), p8.2))) (
    some (AEnd.ret (AV.copy (.bool false)), p4.2)) := (hJ _ _ _ (by kernel_rfl)).trans (by kernel_rfl)
/-! ### warrantor/prog.kinds$4: function 174 -/
noncomputable def prog_kinds_c4.A : FAnn := { nv := 4, mv := [(1, 2)], ld := [], lst := [], obj := [], q := [], raw := [] }
noncomputable def prog_kinds_c4.an : Ann := .nil
noncomputable abbrev prog_kinds_c4.c : Code := Tryz.f174.body.getD .skip
noncomputable def prog_kinds_c4.J (call : Cl) (n : Nat) : Jn (AEnd × H) := realJ Tryz.prog prog_kinds_c4.A call Tryz.f174 prog_kinds_c4.an prog_kinds_c4.c n
abbrev prog_kinds_c4.F (call : Cl) (n : Nat) (J : Jn (AEnd × H)) : Prop := JFix Tryz.prog prog_kinds_c4.A call Tryz.f174 prog_kinds_c4.an prog_kinds_c4.c n J
def prog_kinds_c4.f (J : Jn (AEnd × H)) (x0 x1 : AV) (h : H) : Option (AEnd × H) := J [] [] ⟨[(0, x0), (1, x1)], [], [], h⟩
theorem prog_kinds_c4.f_eq {call : Cl} {n : Nat} {J : Jn (AEnd × H)} (hJ : prog_kinds_c4.F call n J) (x0 x1 : AV) (h : H) : prog_kinds_c4.f J x0 x1 h =
  (bx h (AV.copy x0)).bind fun p1 =>
  (fAddr 1 p1.1).bind fun v2 =>
  (ldCell p1.2 v2).bind fun v3 =>
  (call n_prog_one [AV.canon v3, AV.canon x1] p1.2).bind fun p4 => retOr p4.1 (fun r5p => some (AEnd.pan r5p, p4.2)) fun r5 =>
  condV r5 (
    (fAddr 2 p1.1).bind fun v6 =>
    (ldCell p4.2 v6).bind fun v7 =>
    (bin .eql v7 (.int .i64 0)).bind fun v8 =>
    condV v8 (
      (fAddr 3 p1.1).bind fun v9 =>
      (ldCell p4.2 v9).bind fun v10 =>
      (call n_val_Is [AV.canon v10] p4.2).bind fun p11 => retOr p11.1 (fun r12p => some (AEnd.pan r12p, p11.2)) fun r12 =>
      condV r12 (
        (fAddr 4 p1.1).bind fun v13 =>
        (ldCell p11.2 v13).bind fun v14 =>
        (call n_val_Is [AV.canon v14] p11.2).bind fun p15 => retOr p15.1 (fun r16p => some (AEnd.pan r16p, p15.2)) fun r16 =>
        condV r16 (
          (fAddr 3 p1.1).bind fun v17 =>
          (ldCell p15.2 v17).bind fun v18 =>
          (fAddr 4 p1.1).bind fun v19 =>
          (ldCell p15.2 v19).bind fun v20 =>
          (bin .leq v18 v20).bind fun v21 =>
          some (AEnd.ret (AV.copy v21), p15.2)) (
          some (AEnd.ret (AV.copy (.bool false)), p15.2))) (
        some (AEnd.ret (AV.copy (.bool false)), p11.2))) (
      some (AEnd.ret (AV.copy (.bool false)), p4.2))) (
    some (AEnd.ret (AV.copy (.bool false)), p4.2)) := (hJ _ _ _ (by kernel_rfl)).trans (by kernel_rfl)
/-! ### warrantor/prog.letter: function 175 -/
noncomputable def prog_letter.A : FAnn := { nv := 2, mv := [(1, 15)], ld := [], lst := [], obj := [], q := [], raw := [] }
noncomputable def prog_letter.an : Ann := .nil
noncomputable abbrev prog_letter.c : Code := Tryz.f175.body.getD .skip
noncomputable def prog_letter.J (call : Cl) (n : Nat) : Jn (AEnd × H) := realJ Tryz.prog prog_letter.A call Tryz.f175 prog_letter.an prog_letter.c n
abbrev prog_letter.F (call : Cl) (n : Nat) (J : Jn (AEnd × H)) : Prop := JFix Tryz.prog prog_letter.A call Tryz.f175 prog_letter.an prog_letter.c n J
def prog_letter.f (J : Jn (AEnd × H)) (x0 : AV) (h : H) : Option (AEnd × H) := J [] [] ⟨[(0, x0)], [], [], h⟩
theorem prog_letter.f_eq {call : Cl} {n : Nat} {J : Jn (AEnd × H)} (hJ : prog_letter.F call n J) (x0 : AV) (h : H) : prog_letter.f J x0 h =
  (bin .geq x0 (.int .i32 97)).bind fun v1 =>
  condV v1 (
    (bin .leq x0 (.int .i32 122)).bind fun v2 =>
    condV v2 (
      some (AEnd.ret (AV.copy (.bool true)), h)) (
      (bin .geq x0 (.int .i32 65)).bind fun v3 =>
      condV v3 (
        (bin .leq x0 (.int .i32 90)).bind fun v4 =>
        condV v4 (
          some (AEnd.ret (AV.copy (.bool true)), h)) (
          (bin .eql x0 (.int .i32 95)).bind fun v5 =>
          some (AEnd.ret (AV.copy v5), h))) (
        (bin .eql x0 (.int .i32 95)).bind fun v6 =>
        some (AEnd.ret (AV.copy v6), h)))) (
    (bin .geq x0 (.int .i32 65)).bind fun v7 =>
    condV v7 (
      (bin .leq x0 (.int .i32 90)).bind fun v8 =>
      condV v8 (
        some (AEnd.ret (AV.copy (.bool true)), h)) (
        (bin .eql x0 (.int .i32 95)).bind fun v9 =>
        some (AEnd.ret (AV.copy v9), h))) (
      (bin .eql x0 (.int .i32 95)).bind fun v10 =>
      some (AEnd.ret (AV.copy v10), h))) := (hJ _ _ _ (by kernel_rfl)).trans (by kernel_rfl)
/-! ### warrantor/val.Clip: function 177 -/
noncomputable def val_Clip.A : FAnn := { nv := 2, mv := [(1, 0)], ld := [], lst := [], obj := [], q := [], raw := [] }
noncomputable def val_Clip.an : Ann := .nil
noncomputable abbrev val_Clip.c : Code := Tryz.f177.body.getD .skip
noncomputable def val_Clip.J (call : Cl) (n : Nat) : Jn (AEnd × H) := realJ Tryz.prog val_Clip.A call Tryz.f177 val_Clip.an val_Clip.c n
abbrev val_Clip.F (call : Cl) (n : Nat) (J : Jn (AEnd × H)) : Prop := JFix Tryz.prog val_Clip.A call Tryz.f177 val_Clip.an val_Clip.c n J
def val_Clip.f (J : Jn (AEnd × H)) (x0 : AV) (h : H) : Option (AEnd × H) := J [] [] ⟨[(0, x0)], [], [], h⟩
theorem val_Clip.f_eq {call : Cl} {n : Nat} {J : Jn (AEnd × H)} (hJ : val_Clip.F call n J) (x0 : AV) (h : H) : val_Clip.f J x0 h =
  (maxMinAll true [x0, .int .i64 (-1099511627776)]).bind fun v1 =>
  (maxMinAll false [v1, .int .i64 1099511627776]).bind fun v2 =>
  some (AEnd.ret (AV.copy v2), h) := (hJ _ _ _ (by kernel_rfl)).trans (by kernel_rfl)
end Go.Proofs.YtdlnkfghgbddhaaGreat
